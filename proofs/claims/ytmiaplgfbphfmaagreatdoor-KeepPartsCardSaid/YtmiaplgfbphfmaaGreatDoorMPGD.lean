/- keep.deliver. No condition. -/
import Derived.Test.YtmiaplgfbphfmaaGreatDoorMPZ
import Derived.Test.YtmiaplgfbphfmaaGreatDoorMPP
import Derived.Deep.DeepCutAuto
import Derived.Deep.Cut
import Derived.Test.YtmiaplgfbphfmaaGreatDoorMPX
import Derived.Test.YtmiaplgfbphfmaaGreatDoorMPGB
set_option linter.unusedSimpArgs false
set_option linter.unusedVariables false
namespace Go.Proofs.YtmiaplgfbphfmaaGreatDoor
open Go.RowKit
attribute [local irreducible] wpList

end Go.Proofs.YtmiaplgfbphfmaaGreatDoor
namespace Go.Proofs.YtmiaplgfbphfmaaGreatDoor
open Go.RowKit
attribute [local irreducible] wpList

/-- solve.Add, where what it makes is known. -/
theorem solAdd_eq (w : World) (B K : Int) (wB : wfI B) (wK : wfI K) (A : Option Addr) (n c : Nat) (rows : List Rw) (h : Sl 2 eRw w (LT w.heap.size) A n rows) (hm : n ≤ maxLen) (r : Rw) (A1 A2 : Option Addr) (n1 c1 n2 c2 : Nat)
    (ha : Sl 1 eBool w (LT w.heap.size) A1 n1 r.has) (hd : Sl 1 eByte w (LT w.heap.size) A2 n2 r.data) (b k : Int) (rows' : List Rw) (m : Bool) (er : Int) (E : sysAdd ⟨B, K, rows⟩ r = (⟨b, k, rows'⟩, m, er)) :
    Calls Tryz.prog 164 #[.agg #[.int .i64 B, .int .i64 K, .slice A n c], .agg #[.slice A1 n1 c1, .slice A2 n2 c2]] w fun e w' => ∃ A n c, e = .returned (.tuple #[.agg #[.int .i64 b, .int .i64 k, .slice A n c], .bool m, .int .i64 er]) ∧ (n ≤ 24 ∧ n ≤ c ∧ c ≤ maxLen) ∧ Sl 2 eRw w' (NW w.heap.size w'.heap.size) A n rows' ∧ Fr w w' :=
  (solAdd_any w B K wB wK A n c rows h hm r A1 A2 n1 c1 n2 c2 ha hd).mono fun e w' h => by
    rw [E] at h
    exact h
/-- solve.Known, where it is a system. -/
theorem solKnown_eq (w : World) (B K : Int) (A : Option Addr) (n c : Nat) (rows : List Rw) (h : Sl 2 eRw w (LT w.heap.size) A n rows) (h0 : sysCheck B K rows = 0) :
    Calls Tryz.prog 165 #[.agg #[.int .i64 B, .int .i64 K, .slice A n c]] w fun e w' => ∃ g m, e = .returned (.tuple #[.slice (some ⟨g, 0, none⟩) m m, .int .i64 0]) ∧ (m : Int) = B ∧ m ≤ 24 ∧ Sl 1 eNB w' (LT w'.heap.size) (some ⟨g, 0, none⟩) m (knownF m rows) ∧ Fr w w' := by
  obtain ⟨⟨b1, b2⟩, ⟨k1, k2⟩, _, hR⟩ := sysCheck_ok h0
  obtain ⟨b, rfl⟩ := Int.eq_ofNat_of_zero_le (show 0 ≤ B by omega)
  obtain ⟨k, rfl⟩ := Int.eq_ofNat_of_zero_le (show 0 ≤ K by omega)
  refine (solKnown_ok w b k A n c rows h (by omega) (by omega) (rowsOk_sys hR)).mono ?_
  rintro e w' ⟨g, rfl, ho, hf⟩
  refine ⟨g, b, rfl, rfl, by omega, ?_, hf⟩
  obtain ⟨A', c', e1, _, _, hs⟩ := ho.sl sNB (by decide)
  injection e1 with e1 e2 e3
  subst e1
  rw [← e2] at hs
  exact hs

end Go.Proofs.YtmiaplgfbphfmaaGreatDoor
namespace Go.Proofs.YtmiaplgfbphfmaaGreatDoor
open Go.RowKit
theorem pick_eq (w : World) (id : Int) (b : Nat) (h1 : 0 ≤ id) (h2 : id ≤ 9999) (h3 : 1 ≤ b) (h4 : b ≤ 24) :
    Calls Tryz.prog 163 #[.int .i64 id, .int .i64 (b : Int)] w fun e w' => ∃ A c, e = .returned (.tuple #[.slice A b c, .int .i64 0]) ∧ Sl 1 eBool w' (LT w'.heap.size) A b (pickHas id.toNat b) ∧ Fr w w' := by
  have E : pickOf id (b : Nat) = (pickHas id.toNat b, 0) := by
    unfold pickOf
    rw [if_pos (by omega), Int.toNat_natCast]
  refine (pickOf_any w id b).mono ?_
  rw [E]
  rintro e w' ⟨A, n, c, he, _, hn, hs, hf⟩
  obtain rfl : n = b := by have := hn rfl; omega
  exact ⟨A, c, he, hs, hf⟩
end Go.Proofs.YtmiaplgfbphfmaaGreatDoor
namespace Go.Proofs.YtmiaplgfbphfmaaGreatDoor
open Go.RowKit

set_option maxHeartbeats 2000000 in
theorem cutJoin_body (w : World) (A : Option Addr) (n c B K : Nat) (ls : List (List UInt8)) (h : Sl 1 eBlock w (LT w.heap.size) A n ls) (hck : cutCheck B K = 0) (hn : (n : Int) = blocksOf B K) :
    Calls Tryz.prog 166 #[.agg #[.int .i64 B, .int .i64 K], .slice A n c] w fun e w' => ∃ A' n' c', e = .returned (.tuple #[.slice A' n' c', .int .i64 (joinUp B K ls).2]) ∧ n' ≤ 360 ∧ n' ≤ c' ∧ c' ≤ maxLen ∧ Sl 1 eByte w' (LT w'.heap.size) A' n' (joinUp B K ls).1 ∧ Fr w w' := by
  obtain ⟨⟨h1, h2⟩, ⟨h3, h4⟩, h5, h6, _⟩ := cutCheck_ok hck
  have CC := Lib.hid (fun W : World => cutCheck_any W (B : Int) (K : Int) (wfI.mk (by omega)) (wfI.mk (by omega)))
  rw [hck] at CC
  have CB := Lib.hid (fun W : World => cutBlocks_any W (B : Int) (K : Int) (wfI.mk (by omega)) (wfI.mk (by omega)))
  rw [← hn] at CB
  have hlen := h.1
  obtain ⟨hm1, hm2⟩ := blocks_hold hck hn
  have hb : 1 ≤ B ∧ B ≤ 360 ∧ 1 ≤ K ∧ K ≤ 16 ∧ 1 ≤ n := by omega
  obtain ⟨hB1, hB2, hK1, hK2, hn1⟩ := hb
  have HN : Hid ((ls.length : Int) = blocksOf B K) := by rw [Hid, hlen]; exact hn
  have hne : ((n : Int) != (n : Int)) = false := by simp
  clear h1 h2 h3 h4 h5 h6 hn
  (have H := Lib.hid h; clear h; have Hck := Lib.hid hck; clear hck; have Hlen := Lib.hid hlen; clear hlen)
  go_enter Tryz.func166, Tryz.ntmps166
  go_wp2_with fail
  refine (CC.out _).mono ?_
  rintro e w1 ⟨rfl, hf1⟩
  have hf0 : Fr w w1 := (frAlloc _ _).trans hf1
  obtain ⟨hb0, hb1⟩ := box2 hf1
  (have Hf1 := Lib.hid hf1; clear hf1; have Hf0 := Lib.hid hf0; clear hf0)
  go_wp2_with fail
  refine (CB.out _).mono ?_
  rintro e w2 ⟨rfl, hf2⟩
  have hb0 := (hf2.cell (World.block_lt_of_cell? w1 _ hb0)).trans hb0
  have hb1 := (hf2.cell (World.block_lt_of_cell? w1 _ hb1)).trans hb1
  have hs2 := H.out.go wBlock (Hf0.out.trans hf2)
  (have Hf2 := Lib.hid hf2; clear hf2; have Hs2 := Lib.hid hs2; clear hs2)
  go_wp2_with fail
  go_loopw [7, 24] (fun v i wr => ∃ k : Nat, k ≤ n ∧ i = .int .i64 k ∧ Hid (Own 1 eByte wr w2.heap.size 5 v (ls.take k).flatten) ∧ Hid (∀ b ∈ ls.take k, b.length = K) ∧ Hid (Fr w2 wr)) (fun _ i _ => n - (intOf i).toNat)
  case atStart => exact ⟨0, Nat.zero_le _, rfl, Own.nil, by simp [Hid], Below.refl _ _⟩
  case round =>
    obtain ⟨k, hk, rfl, HO, HL, HF⟩ := hrel
    have hb0' : wr.cell? ⟨w.heap.size, 0, none⟩ = some (.int .i64 B) := (HF.out.cell (World.block_lt_of_cell? w2 _ hb0)).trans hb0
    have hb1' : wr.cell? ⟨w.heap.size, 1, none⟩ = some (.int .i64 K) := (HF.out.cell (World.block_lt_of_cell? w2 _ hb1)).trans hb1
    have hfl : Hid ((ls.take k).flatten.length = k * K) := by
      rw [Hid, length_flatten HL.out, List.length_take, Hlen.out, Nat.min_eq_left hk]
    by_cases hlt : k < n
    · obtain ⟨ad, rfl, hE⟩ := Hs2.out.els (by omega)
      obtain ⟨A', n', c', l, hl, hcl, hm', hs⟩ := hE.block hlt
      have hcw : wr.cell? (ad.add k) = some (.slice A' n' c') := (HF.out.cell (p := ad.add k) (by rw [block_of_add]; exact hE.2.1)).trans hcl
      have hkK : k * K ≤ 24 * 16 := Nat.mul_le_mul (by omega) hK2
      by_cases hnK : n' = K
      · subst hnK
        have hne2 : ((n' : Int) != (n' : Int)) = false := by simp
        obtain ⟨adb, rfl, hbE⟩ := hs.els (by omega)
        have HC : Hid (∀ j u, (l.map bV)[j]? = some u → wr.cell? (adb.add j) = some u) := by
          intro j u hu
          rw [List.getElem?_map] at hu
          obtain ⟨y, hy, rfl⟩ := Option.map_eq_some_iff.1 hu
          refine (HF.out.cell (p := adb.add j) (by rw [block_of_add]; exact hbE.2.1)).trans ?_
          simpa [eByte, bV] using hbE.2.2 j y hy
        have HT : Hid ((ls.take (k + 1)).flatten = (ls.take k).flatten ++ l) := by rw [Hid, take_snoc' hl, List.flatten_append]; simp
        have HL' : Hid (∀ b ∈ ls.take (k + 1), b.length = n') := by
          intro b hb
          rw [take_snoc' hl] at hb
          rcases List.mem_append.1 hb with hb | hb
          · exact HL.out b hb
          · rw [List.mem_singleton.1 hb]; exact hs.1
        have hll := Lib.hid hs.1
        clear hl hcl hs
        go_wp2_with (at_builtin; refine wpList_apps2 _ rfl _ _ 35 36 rfl w2.heap.size 5 (bV 0) 1 1 Tryz.underlying35 Tryz.underlying36 infoByte rfl (by decide) sByte _ (ls.take k).flatten rfl HO.out adb n' c' (l.map bV) rfl ?c1 HC.out ?c2 l ?c3 ?c4 ?c5 ?c6 ?c7 ?_)
        case c1 => have := hll.out; simp; omega
        case c2 => intro u hu; obtain ⟨y, _, rfl⟩ := List.mem_map.1 hu; rfl
        case c3 => exact hll.out
        case c4 => intro i x hx; simp [eByte, hx, bV]
        case c5 => have := hfl.out; unfold maxLen; omega
        case c6 => have := hfl.out; unfold lim; omega
        case c7 => exact HF.out.size
        · intro v' w3 ho3 hg3 hge3
          have HO3 : Hid (Own 1 eByte w3 w2.heap.size 5 v' (ls.take (k + 1)).flatten) := by rw [HT.out]; exact ho3
          have HF3 : Hid (Fr w2 w3) := HF.out.grown hg3 HF.out.size hge3
          clear ho3 hg3 hge3 hcw hb0' hb1'
          go_wp2
          go_roundw
          case rel => exact ⟨k + 1, by omega, by go_num, HO3, HL', HF3⟩
          case measure => simp [intOf]; omega
      · have hne2 : ((n' : Int) != (K : Int)) = true := by rw [bne_iff_ne]; omega
        have E : Hid (joinUp B K ls = ([], 4)) := join_form Hck.out HN.out (List.mem_of_getElem? hl) (by rw [hs.1]; omega)
        clear hl hcl hs hnK
        go_wp2_with fail
        go_ret2
        rw [E.out]
        exact ⟨none, 0, 0, rfl, by omega, by omega, by unfold maxLen; omega, Sl.nil, by (repeat' (first | exact Below.refl _ _ | refine below_drewN ?_ _ | refine Below.drew ?_ | refine frA ?_ _ | refine Fr.trans ?_ HF.out | refine Fr.trans ?_ Hf2.out | refine Fr.trans ?_ Hf0.out))⟩
    · obtain rfl : k = n := by omega
      have ht : Hid (ls.take k = ls) := List.take_of_length_le (by have := Hlen.out; omega)
      rw [ht.out] at HO HL hfl
      obtain ⟨X, hX⟩ : ∃ X, X = ls.flatten := ⟨_, rfl⟩
      rw [← hX] at HO hfl
      have HX := Lib.hid hX
      have hkK : k * K ≤ 24 * 16 := Nat.mul_le_mul (by omega) hK2
      obtain ⟨T, hT⟩ : ∃ T, T = k * K := ⟨_, rfl⟩
      rw [← hT] at hfl hkK hm1
      obtain ⟨A2, c2, rfl, ⟨hc1, hc2⟩, hsl⟩ := HO.out.slC sByte (by decide)
      rw [hfl.out] at hsl hc1 ⊢
      have HC := Lib.hid (hsl.cut (k := B) (cap := c2) hm1 hc1)
      have HS := Lib.hid hsl
      have HHL : Hid (∀ b ∈ ls, (b.length : Int) = K) := fun b hb => by rw [HL.out b hb]
      obtain ⟨adX, rfl, hXE⟩ := hsl.els (by omega)
      clear hX hT hsl HL
      have HPRE : Hid (Sl 1 eByte wr (LT wr.heap.size) (some adX) B (X.take B)) := hXE.sl.pre hm1
      by_cases hcB : c2 = B
      · have hTB : T = B := by omega
        have E : Hid (joinUp B K ls = (X.take B, 0)) := by
          rw [HX.out]
          refine join_ok Hck.out HN.out HHL.out fun x hx => ?_
          rw [← HX.out, List.drop_eq_nil_of_le (by have := hfl.out; omega)] at hx
          simp at hx
        subst hTB
        subst hcB
        clear HC
        go_wp2_with fail
        refine wp_loop_rounds 1 ?_
        rw [rounds_succ]
        go_wp2_with fail
        go_ret2
        rw [E.out]
        exact ⟨some adX, c2, c2, rfl, hB2, by omega, hc2, HPRE.out, by (repeat' (first | exact Below.refl _ _ | refine below_drewN ?_ _ | refine Below.drew ?_ | refine frA ?_ _ | refine Fr.trans ?_ HF.out | refine Fr.trans ?_ Hf2.out | refine Fr.trans ?_ Hf0.out))⟩
      · rw [if_neg hcB] at HC
        have HHN := HN
        go_wp2_with fail
        go_loop [42] (fun i => ∃ j : Nat, j ≤ T - B ∧ i = .int .i64 j ∧ Hid (∀ x ∈ (X.drop B).take j, x = 0)) (fun i => (T - B) - (intOf i).toNat)
        case atStart => exact ⟨0, Nat.zero_le _, rfl, by simp [Hid]⟩
        case round =>
          obtain ⟨j, hj, rfl, HZ⟩ := hrel
          by_cases hlt : j < T - B
          · obtain ⟨ad3, had3, hE3⟩ := HC.out.els (by omega)
            obtain rfl : adX.add (B * 1) = ad3 := by simpa using had3
            obtain ⟨x, hx, hcx⟩ := hE3.byte hlt
            rw [Nat.mul_one] at hcx
            by_cases hx0 : x = 0
            · subst hx0
              have HZ' : Hid (∀ x ∈ (X.drop B).take (j + 1), x = 0) := by
                intro y hy
                rw [take_snoc' hx] at hy
                rcases List.mem_append.1 hy with hy | hy
                · exact HZ.out y hy
                · exact List.mem_singleton.1 hy
              have hcx2 : wr.cell? ((adX.add B).add j) = some (.int .u8 0) := hcx
              clear hx hcx had3
              go_wp2_with fail
              go_round
              case rel => exact ⟨j + 1, by omega, by go_num, HZ'⟩
              case measure => simp [intOf]; omega
            · have hxb : ((x.toNat : Int) != 0) = true := by
                rw [bne_iff_ne]; intro e; exact hx0 (UInt8.toNat_inj.1 (by simpa using e))
              have E : Hid (joinUp B K ls = ([], 4)) := join_behind Hck.out HN.out HHL.out (by rw [← HX.out]; exact hx) hx0
              clear hx had3 hx0
              go_wp2_with fail
              go_ret2
              rw [E.out]
              exact ⟨none, 0, 0, rfl, by omega, by omega, by unfold maxLen; omega, Sl.nil, by (repeat' (first | exact Below.refl _ _ | refine below_drewN ?_ _ | refine Below.drew ?_ | refine frA ?_ _ | refine Fr.trans ?_ HF.out | refine Fr.trans ?_ Hf2.out | refine Fr.trans ?_ Hf0.out))⟩
          · have E : Hid (joinUp B K ls = (X.take B, 0)) := by
              rw [HX.out]
              refine join_ok Hck.out HN.out HHL.out fun x hx => HZ.out x ?_
              rw [List.take_of_length_le (by rw [List.length_drop, hfl.out]; omega), HX.out]
              exact hx
            clear HC
            go_wp2_with fail
            go_ret2
            rw [E.out]
            exact ⟨some adX, B, B, rfl, hB2, by omega, by unfold maxLen; omega, HPRE.out, by (repeat' (first | exact Below.refl _ _ | refine below_drewN ?_ _ | refine Below.drew ?_ | refine frA ?_ _ | refine Fr.trans ?_ HF.out | refine Fr.trans ?_ Hf2.out | refine Fr.trans ?_ Hf0.out))⟩

set_option maxHeartbeats 400000 in
/-- What cut.Join answers. -/
theorem cutJoin_any (w : World) (A : Option Addr) (n c : Nat) (B K : Int) (ls : List (List UInt8)) (h : Sl 1 eBlock w (LT w.heap.size) A n ls) (wB : wfI B) (wK : wfI K) :
    Calls Tryz.prog 166 #[.agg #[.int .i64 B, .int .i64 K], .slice A n c] w fun e w' => ∃ A' n' c', e = .returned (.tuple #[.slice A' n' c', .int .i64 (joinUp B K ls).2]) ∧ n' ≤ 360 ∧ n' ≤ c' ∧ c' ≤ maxLen ∧ Sl 1 eByte w' (LT w'.heap.size) A' n' (joinUp B K ls).1 ∧ Fr w w' := by
  have hl := h.1
  by_cases hck : cutCheck B K = 0
  · obtain ⟨b, rfl⟩ := Int.eq_ofNat_of_zero_le (show 0 ≤ B by have := (cutCheck_ok hck).1; omega)
    obtain ⟨k, rfl⟩ := Int.eq_ofNat_of_zero_le (show 0 ≤ K by have := (cutCheck_ok hck).2.1; omega)
    by_cases hn : (n : Int) = blocksOf b k
    · exact cutJoin_body w A n c b k ls h hck hn
    · have E : Hid (joinUp b k ls = ([], 8)) := join_short hck (by rw [hl]; exact hn)
      have CC := Lib.hid (fun W : World => cutCheck_any W b k wB wK)
      rw [hck] at CC
      have CB := Lib.hid (fun W : World => cutBlocks_any W b k wB wK)
      obtain ⟨q, hq⟩ : ∃ q, q = blocksOf b k := ⟨_, rfl⟩
      rw [← hq] at hn CB
      have hne : ((n : Int) != q) = true := by rw [bne_iff_ne]; exact hn
      clear hck hn hl h hq
      go_enter Tryz.func166, Tryz.ntmps166
      go_wp2_with fail
      refine (CC.out _).mono ?_
      rintro e w1 ⟨rfl, hf1⟩
      have hf0 : Fr w w1 := (frAlloc _ _).trans hf1
      obtain ⟨hb0, hb1⟩ := box2 hf1
      (have Hf1 := Lib.hid hf1; clear hf1; have Hf0 := Lib.hid hf0; clear hf0)
      go_wp2_with fail
      refine (CB.out _).mono ?_
      rintro e w2 ⟨rfl, hf2⟩
      (have Hf2 := Lib.hid hf2; clear hf2)
      go_wp2_with fail
      go_ret2
      rw [E.out]
      exact ⟨none, 0, 0, rfl, by omega, by omega, by unfold maxLen; omega, Sl.nil, by (repeat' (first | exact Below.refl _ _ | refine below_drewN ?_ _ | refine Below.drew ?_ | refine frA ?_ _ | refine Fr.trans ?_ Hf2.out | refine Fr.trans ?_ Hf0.out))⟩
  · have E : Hid (joinUp B K ls = ([], cutCheck B K)) := join_err hck
    have CC := Lib.hid (fun W : World => cutCheck_any W B K wB wK)
    have hne : (cutCheck B K != 0) = true := by rw [bne_iff_ne]; exact hck
    clear hck hl h
    go_enter Tryz.func166, Tryz.ntmps166
    go_wp2_with fail
    refine (CC.out _).mono ?_
    rintro e w1 ⟨rfl, hf1⟩
    have hf0 : Fr w w1 := (frAlloc _ _).trans hf1
    (have Hf1 := Lib.hid hf1; clear hf1; have Hf0 := Lib.hid hf0; clear hf0)
    go_wp2_with fail
    go_ret2
    rw [E.out]
    exact ⟨none, 0, 0, rfl, by omega, by omega, by unfold maxLen; omega, Sl.nil, Hf0.out⟩
end Go.Proofs.YtmiaplgfbphfmaaGreatDoor
namespace Go.Proofs.YtmiaplgfbphfmaaGreatDoor
open Go.RowKit
attribute [local irreducible] wpList

/-- What solve.Decode leaves. -/
def DecPost (w : World) (x : List UInt8 × Int) (e : Ending) (w' : World) : Prop :=
  ∃ A n c, e = .returned (.tuple #[.slice A n c, .int .i64 x.2]) ∧ (n ≤ 360 ∧ n ≤ c ∧ c ≤ maxLen) ∧ Sl 1 eByte w' (LT w'.heap.size) A n x.1 ∧ Fr w w'
theorem decPost_err {w w' : World} {x : List UInt8 × Int} {e : Int} (E : x = ([], e)) (hf : Fr w w') : DecPost w x (.returned (.tuple #[.slice none 0 0, .int .i64 e])) w' := by
  subst E
  exact ⟨none, 0, 0, rfl, ⟨by omega, by omega, by unfold maxLen; omega⟩, Sl.nil, hf⟩

theorem set3_far {w : World} {g q o : Nat} {a b c : Value} (h : g ≠ q) : (((w.setCell ⟨g, 0, none⟩ a).setCell ⟨g, 1, none⟩ b).setCell ⟨g, 2, none⟩ c).cell? ⟨q, o, none⟩ = w.cell? ⟨q, o, none⟩ := by
  rw [World.cell?_setCell_other _ _ _ _ (fun e => by injection e with e; exact h e), set2_far h]
set_option maxRecDepth 100000 in
set_option maxHeartbeats 4000000 in
theorem decode_good (w : World) (B : Int) (K b : Nat) (A : Option Addr) (n c : Nat) (xs : List Sm) (h : Sl 2 eSm w (LT w.heap.size) A n xs) (hn : n ≤ 60) (hck : cutCheck B K = 0) (hb : blocksOf B K = b) :
    Calls Tryz.prog 143 #[.agg #[.int .i64 B, .int .i64 K], .slice A n c] w (DecPost w (decodeF B K xs)) := by
  obtain ⟨⟨c1, c2⟩, ⟨c3, c4⟩, c5, c6, c7⟩ := cutCheck_ok hck
  have hd60 : decide ((60 : Int) < (n : Int)) = false := by simp; omega
  have hd61 : decide (60 < n) = false := by simp; omega
  have hlen := h.1
  have D0 : Hid (decodeF B K xs = if (decRows b B K [] xs).2 ≠ 0 then ([], (decRows b B K [] xs).2) else if (decRows b B K [] xs).1.length < b then ([], 8) else joinUp B K (knownF b (decRows b B K [] xs).1)) := by
    unfold decodeF Hid
    rw [if_neg (by simp [hck]), if_neg (by omega), hb, Int.toNat_natCast]
  have b1 : 1 ≤ b := by omega
  have b2 : b ≤ 24 := by omega
  have K1 : 1 ≤ K := by omega
  have K2 : K ≤ 16 := by omega
  have wB : wfI B := wfI.mk (by omega)
  have wK : wfI (K : Int) := wfI.mk (by omega)
  have wb : wfI (b : Int) := wfI.mk (by omega)
  have EN : Hid (sysNew b K = (⟨b, K, []⟩, 0)) := by
    unfold sysNew Hid
    rw [if_neg (by simp [sysCheck_of (rows := []) (by omega : 1 ≤ b ∧ b ≤ 24) (by omega : 1 ≤ K ∧ K ≤ 16) (made_nil b K).sys])]
  have CB : Hid (∀ W : World, Calls Tryz.prog 59 #[.agg #[.int .i64 B, .int .i64 K]] W fun e w' => e = .returned (.int .i64 (b : Int)) ∧ Fr W w') := fun W => by
    have := cutBlocks_any W B K wB wK
    rw [hb] at this; exact this
  have CN : Hid (∀ W : World, Calls Tryz.prog 162 #[.int .i64 (b : Int), .int .i64 (K : Int)] W fun e w' => e = .returned (.tuple #[.agg #[.int .i64 (b : Int), .int .i64 (K : Int), .slice none 0 0], .int .i64 0]) ∧ Fr W w') := fun W => by
    have := solNew_any W b K wb wK
    rw [EN.out] at this; exact this
  have HCK := Lib.hid hck
  have HL := Lib.hid hlen
  (have H := Lib.hid h; clear h)
  clear hck hb hlen c1 c2 c3 c4 c5 c6 c7
  go_enter Tryz.func143, Tryz.ntmps143
  go_wp2_with fail
  (with_reducible refine (cutCheck_any _ _ _ wB wK).mono ?_)
  rw [HCK.out]
  rintro e v1 ⟨rfl, hf⟩
  have HP1 : Hid (v1.heap[w.heap.size]? = some (.cells #[.int .i64 B, .int .i64 K] 32 (0, 0))) := blk_go (by (repeat' (with_reducible (first | (refine heap_new ?_; (first | (simp; done) | rfl); done) | refine heap_dn ?_ | refine heap_d ?_ | refine heap_old ?_)))) hf
  have HF1 : Hid (Fr w v1) := Fr.trans (by (repeat' (first | exact Below.refl _ _ | refine below_drewN ?_ _ | refine Below.drew ?_ | refine frA ?_ _))) hf
  have hp1 := HP1.out
  (obtain ⟨x0, x1⟩ := box2_ hp1)
  have hwl := (Array.getElem?_eq_some_iff.1 hp1).1
  clear hf hp1
  go_upto_region 6 with fail
  go_cut [7] (fun s7 wx => ∃ g : Nat, s7 = .pointer (some ⟨g, 0, none⟩) ∧ Hid (wx.heap[g]? = some (.cells #[.int .i64 b, .int .i64 K, .slice none 0 0] 233 (0, 0))) ∧ Hid (v1.heap.size ≤ g) ∧ Hid (Fr v1 wx))
  case first =>
    have HB : Hid (v1.drew.heap[w.heap.size]? = some (.cells #[.int .i64 B, .int .i64 K] 32 (0, 0))) := HP1.out
    have HG : Hid (Fr v1 v1.drew) := (Below.refl _ _).drew
    go_region_held3 (fun w' => w'.cell? ⟨w.heap.size, 0, none⟩ = some (.int .i64 B) ∧ w'.cell? ⟨w.heap.size, 1, none⟩ = some (.int .i64 K)) (first | exact box2_ HB.out | exact box2_ (heap_old HB.out) | exact ⟨(set3_far NE).trans (cell_of_heap HB.out), (set3_far NE).trans (cell_of_heap HB.out)⟩ | go_keep)
      (first
        | (go_at_call 59; (with_reducible refine (CB.out v1.drew).mono ?_); rintro e w5 ⟨rfl, hf5⟩; have HB := Lib.hid (blk_go HB.out hf5); have HG := Lib.hid (HG.out.trans hf5); clear hf5)
        | (go_at_call 59; (with_reducible refine (CB.out (v1.alloc (.cells #[.int .i64 0, .int .i64 0, .slice none 0 0] 233)).drew).mono ?_); rintro e w5 ⟨rfl, hf5⟩; have HGZ := Lib.hid (blk_go (heap_d (w := v1.alloc (.cells #[.int .i64 0, .int .i64 0, .slice none 0 0] 233)) (heap_new (b := v1.heap.size) rfl)) hf5); have HB := Lib.hid (blk_go (heap_d (w := v1.alloc (.cells #[.int .i64 0, .int .i64 0, .slice none 0 0] 233)) (heap_old HP1.out)) hf5); have HG := Lib.hid (Fr.trans (frAlloc v1 (.cells #[.int .i64 0, .int .i64 0, .slice none 0 0] 233)).drew hf5); obtain ⟨gz, hgz⟩ : ∃ gz, gz = v1.heap.size := ⟨_, rfl⟩; have HGE : Hid (v1.heap.size ≤ gz) := Nat.le_of_eq hgz.symm; rw [← hgz] at HGZ; rw [← hgz]; clear hf5 hgz)
        | (go_at_call 162; (with_reducible refine (CN.out w5).mono ?_); rintro e w6 ⟨rfl, hf5⟩; have HB := Lib.hid (blk_go HB.out hf5); have HGZ := Lib.hid (blk_go HGZ.out hf5); have HG := Lib.hid (HG.out.trans hf5); have y0 := cell_of_heap (i := 0) HGZ.out; have y1 := cell_of_heap (i := 1) HGZ.out; have y2 := cell_of_heap (i := 2) HGZ.out; have f0 := blk_free (i := 0) HGZ.out; have f1 := blk_free (i := 1) HGZ.out; have f2 := blk_free (i := 2) HGZ.out; have hgl := (Array.getElem?_eq_some_iff.1 HGZ.out).1; have NE : gz ≠ w.heap.size := Nat.ne_of_gt (Nat.lt_of_lt_of_le hwl HGE.out); clear hf5)
        | (go_at_call 162; (with_reducible refine (CN.out w5).mono ?_); rintro e w6 ⟨rfl, hf5⟩; have HB := Lib.hid (blk_go HB.out hf5); have HG := Lib.hid (HG.out.trans hf5); clear hf5)
        | (go_at_call 162; (with_reducible refine (CN.out (w5.alloc (.cells #[.int .i64 0, .int .i64 0, .slice none 0 0] 233))).mono ?_); rintro e w6 ⟨rfl, hf5⟩; obtain ⟨gz, hgz⟩ : ∃ gz, gz = w5.heap.size := ⟨_, rfl⟩; have HGZ := Lib.hid (blk_go (heap_new (w := w5) (o := (.cells #[.int .i64 0, .int .i64 0, .slice none 0 0] 233)) hgz) hf5); have HB := Lib.hid (blk_go (heap_old (o := (.cells #[.int .i64 0, .int .i64 0, .slice none 0 0] 233)) HB.out) hf5); have HGE : Hid (v1.heap.size ≤ gz) := (by rw [hgz]; exact HG.out.size); have HG := Lib.hid ((HG.out.trans (frAlloc w5 (.cells #[.int .i64 0, .int .i64 0, .slice none 0 0] 233))).trans hf5); rw [← hgz]; have y0 := cell_of_heap (i := 0) HGZ.out; have y1 := cell_of_heap (i := 1) HGZ.out; have y2 := cell_of_heap (i := 2) HGZ.out; have f0 := blk_free (i := 0) HGZ.out; have f1 := blk_free (i := 1) HGZ.out; have f2 := blk_free (i := 2) HGZ.out; have hgl := (Array.getElem?_eq_some_iff.1 HGZ.out).1; have NE : gz ≠ w.heap.size := Nat.ne_of_gt (Nat.lt_of_lt_of_le hwl HGE.out); clear hf5 hgz)
        | fail)
    all_goals first
      | (have hst : Hid ((((w6.setCell ⟨gz, 0, none⟩ (.int .i64 b)).setCell ⟨gz, 1, none⟩ (.int .i64 K)).setCell ⟨gz, 2, none⟩ (.slice none 0 0)).heap[gz]? = some (.cells #[.int .i64 b, .int .i64 K, .slice none 0 0] 233 (0, 0))) := stor3_ HGZ.out
         have hfr : Hid (Fr v1 (((w6.setCell ⟨gz, 0, none⟩ (.int .i64 b)).setCell ⟨gz, 1, none⟩ (.int .i64 K)).setCell ⟨gz, 2, none⟩ (.slice none 0 0))) := bel3_ HG.out HGE.out
         go_wp2_with fail
         go_meet
         exact ⟨gz, rfl, hst, HGE, hfr⟩)
      | (have hge : Hid (v1.heap.size ≤ w6.heap.size) := HG.out.size
         have hfr : Hid (Fr v1 (w6.alloc (.cells #[.int .i64 b, .int .i64 K, .slice none 0 0] 233))) := HG.out.trans (frAlloc _ _)
         go_wp2_with fail
         go_meet
         exact ⟨_, rfl, heap_new rfl, hge, hfr⟩)
  case rest =>
    obtain ⟨p7, rfl, HB2, HG2, HF2⟩ := hcut
    obtain ⟨W2, rfl⟩ : ∃ W2, W2 = wc := ⟨_, rfl⟩
    have HWP : Hid (w.heap.size < p7) := Nat.lt_of_lt_of_le hwl HG2.out
    have HP2 := Lib.hid (blk_go HP1.out HF2.out)
    have HFW : Hid (Fr w W2) := HF1.out.trans HF2.out
    have hwp := HWP.out
    clear HP1 x0 x1
    go_wp2_with fail
    go_loopw [37] (fun s37 wr => ∃ (i : Nat) (rows : List Rw) (A9 : Option Addr) (n9 c9 : Nat), i ≤ n ∧ s37 = .int .i64 i ∧ Hid (wr.heap[p7]? = some (.cells #[.int .i64 b, .int .i64 K, .slice A9 n9 c9] 233 (0, 0))) ∧ (n9 ≤ 24 ∧ n9 ≤ c9 ∧ c9 ≤ maxLen) ∧ Hid (Sl 2 eRw wr (LT wr.heap.size) A9 n9 rows) ∧ Hid (Sys b K rows) ∧ Hid (decRows b B K [] xs = decRows b B K rows (xs.drop i)) ∧ Hid (Fr w wr) ∧ Hid (wr.heap[w.heap.size]? = some (.cells #[.int .i64 B, .int .i64 K] 32 (0, 0)))) (fun i _ => n - (intOf i).toNat)
    case atStart => exact ⟨0, [], none, 0, 0, Nat.zero_le _, rfl, HB2, ⟨by omega, by omega, by unfold maxLen; omega⟩, Sl.nil, (made_nil b K).sys, rfl, HFW, HP2⟩
    case round =>
      obtain ⟨i, rows, A9, n9, c9, hi, rfl, HB, ⟨hn9, hc9, hm9⟩, HR, HS, HD, HF, HP⟩ := hrel
      have hpw := HP.out
      (obtain ⟨x0, x1⟩ := box2_ hpw)
      have hbw := HB.out
      (obtain ⟨y0, y1, y2⟩ := box3_ hbw)
      have hwr7 := (Array.getElem?_eq_some_iff.1 hbw).1
      have hwr0 := (Array.getElem?_eq_some_iff.1 hpw).1
      clear hpw hbw
      by_cases hlt : i < n
      · obtain ⟨ad, rfl, hE⟩ := (H.out.go sSm HF.out).els (by omega)
        obtain ⟨x, hx, hrx⟩ := hE.row hlt
        obtain ⟨A3, n3, c3, ⟨m0, m1⟩, wx, ⟨k1, k2, k3⟩, hby⟩ := eSm_iff.1 hrx
        have m0 : wr.cell? (ad.add (i * 2)) = some (.int .i64 x.id) := by simpa [Addr.add] using m0
        have m1 : wr.cell? ⟨(ad.add (i * 2)).block, (ad.add (i * 2)).off + 1, none⟩ = some (.slice A3 n3 c3) := by simpa [Addr.add] using m1
        have HDX : Hid (decRows b B K [] xs = decRows b B K rows (x :: xs.drop (i + 1))) := by rw [Hid, HD.out, drop_cons hx]
        have hdl := hby.1
        obtain ⟨q, hq⟩ : ∃ q, q = wr.heap.size := ⟨_, rfl⟩
        obtain ⟨W4, hW4⟩ : ∃ W4, W4 = wr.alloc (.cells #[.int .i64 x.id, .slice A3 n3 c3] 38) := ⟨_, rfl⟩
        have HX4 : Hid (W4.heap[q]? = some (.cells #[.int .i64 x.id, .slice A3 n3 c3] 38 (0, 0))) := by rw [hW4]; exact heap_new hq
        have HB4 : Hid (W4.heap[p7]? = some (.cells #[.int .i64 b, .int .i64 K, .slice A9 n9 c9] 233 (0, 0))) := by rw [hW4]; exact heap_old HB.out
        have HP4 : Hid (W4.heap[w.heap.size]? = some (.cells #[.int .i64 B, .int .i64 K] 32 (0, 0))) := by rw [hW4]; exact heap_old HP.out
        have HF4 : Hid (Fr wr W4) := by rw [hW4]; exact frAlloc _ _
        have HQ := Lib.hid hq
        have HW4 := Lib.hid hW4
        obtain ⟨ck, hck⟩ : ∃ ck, ck = codeCheck B K x.id n3 := ⟨_, rfl⟩
        have CC := Lib.hid (fun W A c => codeCheck_any W B K x.id A n3 c wB wK)
        rw [← hck] at CC
        have HCK2 : Hid (codeCheck B K x.id x.data.length = ck) := by rw [Hid, hdl, hck]
        have HBY := Lib.hid hby
        (have Hdl := Lib.hid hdl; clear hdl; have Hck := Lib.hid hck; clear hck)
        clear hrx hE hx k1 k2 k3 hby hq hW4 wx HD
        go_wp2_with fail
        rw [← HW4.out, ← HQ.out]
        clear x0 x1 y0 y1 y2 m0 m1 HW4
        (with_reducible refine (CC.out _ _ _).mono ?_)
        rintro e v5 ⟨rfl, hf⟩
        have HX5 := Lib.hid (blk_go HX4.out hf)
        have HB5 := Lib.hid (blk_go HB4.out hf)
        have HP5 := Lib.hid (blk_go HP4.out hf)
        have HF5 : Hid (Fr wr v5) := HF4.out.trans hf
        clear hf HX4 HB4 HP4 HF4 CC
        by_cases hc0 : ck = 0
        · have e1 : (ck != 0) = false := by simp [hc0]
          have hcc := codeCheck_ok (HCK2.out.trans hc0)
          obtain ⟨hid1, hid2⟩ := hcc.2.1
          have hfx : Fit b K (symRow b x) := ⟨length_pickHas _ _, by have := hcc.2.2; show x.data.length = K; omega⟩
          have HD2 : Hid (decRows b B K [] xs = if (sysAdd ⟨b, K, rows⟩ (symRow b x)).2.2 ≠ 0 then ([], (sysAdd ⟨b, K, rows⟩ (symRow b x)).2.2) else decRows b B K (sysAdd ⟨b, K, rows⟩ (symRow b x)).1.rows (xs.drop (i + 1))) := by
            rw [Hid, HDX.out, decRows, if_neg (by rw [HCK2.out, hc0]; simp)]
          obtain ⟨b', k', rows', mo, er, hadd⟩ : ∃ b' k' rows' mo er, sysAdd ⟨b, K, rows⟩ (symRow b x) = (⟨b', k', rows'⟩, mo, er) := ⟨_, _, _, _, _, rfl⟩
          have EA := Lib.hid hadd
          rw [hadd] at HD2
          have HS' : Hid (er = 0 → b' = (b : Int) ∧ k' = (K : Int) ∧ Sys b K rows') := fun h0 => by
            obtain ⟨b2, k2, e2, e3, _, _, _, hs2, _, e4, e5, hcase⟩ := sysAdd_ok0 (B := (b : Int)) (K := (K : Int)) (rows := rows) (r := symRow b x) (by rw [hadd]; exact h0)
            rw [hadd] at e4 e5 hcase
            simp only [] at e4 e5 hcase
            obtain rfl : b2 = b := by omega
            obtain rfl : k2 = K := by omega
            refine ⟨e4, e5, ?_⟩
            rcases hcase with ⟨rfl, _⟩ | ⟨_, rfl, _, _, hs3, _⟩
            · exact hs2
            · exact hs3
          have hx5 := HX5.out
          (obtain ⟨z0, z1⟩ := box2_ hx5)
          have hb5 := HB5.out
          (obtain ⟨y0, y1, y2⟩ := box3_ hb5)
          clear hx5 hb5 hc0 hcc hfx hadd HDX HCK2
          go_wp2_with fail
          (with_reducible refine (pick_eq _ _ _ hid1 hid2 b1 b2).mono ?_)
          rintro e v6 ⟨A6, c6, rfl, hs6, hf⟩
          have HX6 := Lib.hid (blk_go HX5.out hf)
          have HB6 := Lib.hid (blk_go HB5.out hf)
          have HP6 := Lib.hid (blk_go HP5.out hf)
          have HF6 : Hid (Fr wr v6) := HF5.out.trans hf
          have HS6 := Lib.hid hs6
          have hx6 := HX6.out
          (obtain ⟨z0, z1⟩ := box2_ hx6)
          have hb6 := HB6.out
          (obtain ⟨y0, y1, y2⟩ := box3_ hb6)
          have hp96 := (Array.getElem?_eq_some_iff.1 hb6).1
          have hrm : n9 ≤ maxLen := by omega
          clear hf hs6 hx6 hb6 HX5 HB5 HP5 HF5
          go_wp2_with fail
          (with_reducible refine (solAdd_eq _ _ _ wb wK _ _ _ rows (HR.out.go sRw HF6.out) hrm (symRow b x) _ _ _ _ _ _ HS6.out (HBY.out.go sByte HF6.out) _ _ _ _ _ EA.out).mono ?_)
          rintro e v7 ⟨A10, n10, c10, rfl, ⟨hn10, hc10, hm10⟩, hs10, hf⟩
          have HF7 : Hid (Fr wr v7) := HF6.out.trans hf
          by_cases he0 : er = 0
          · subst he0
            obtain ⟨rfl, rfl, hsys⟩ := HS'.out rfl
            have HD3 : Hid (decRows b B K [] xs = decRows b B K rows' (xs.drop (i + 1))) := by rw [Hid, HD2.out, if_neg (by simp)]
            have hb7 := blk_go HB6.out hf
            have hp7 := blk_go HP6.out hf
            (obtain ⟨y0, y1, y2⟩ := box3_ hb7)
            have yf0 := blk_free (i := 0) hb7
            have yf1 := blk_free (i := 1) hb7
            have yf2 := blk_free (i := 2) hb7
            have hbl7 := (Array.getElem?_eq_some_iff.1 hb7).1
            obtain ⟨W8, hW8⟩ : ∃ W8, W8 = (((v7.setCell ⟨p7, 0, none⟩ (.int .i64 b)).setCell ⟨p7, 1, none⟩ (.int .i64 K)).setCell ⟨p7, 2, none⟩ (.slice A10 n10 c10)).alloc (.cells #[.int .i64 b, .int .i64 K, .slice A10 n10 c10] 233) := ⟨_, rfl⟩
            have HB8 : Hid (W8.heap[p7]? = some (.cells #[.int .i64 b, .int .i64 K, .slice A10 n10 c10] 233 (0, 0))) := by rw [hW8]; exact heap_old (stor3_ hb7)
            have hC8 : Chg (fun x => x = p7) v7 W8 := by rw [hW8]; exact (Chg.of (grw3_ ⟨rfl, rfl, rfl, Nat.le_refl _, fun _ _ _ => rfl⟩)).trans (frAlloc _ _).chg
            have HP8 : Hid (W8.heap[w.heap.size]? = some (.cells #[.int .i64 B, .int .i64 K] 32 (0, 0))) := hC8.blk hp7 (by omega)
            have HR8 : Hid (Sl 2 eRw W8 (LT W8.heap.size) A10 n10 rows') := by
              have q2 := hs10.chg sRw hC8 fun bb hb => ⟨hb.2, fun e => by have := hb.1; omega⟩
              exact q2.more sRw fun bb hb => Nat.lt_of_lt_of_le hb.2 hC8.size
            have HF8 : Hid (Fr w W8) := hC8.fr (HF.out.trans HF7.out) fun bb hb => by rw [hb]; omega
            have HSY := Lib.hid hsys
            rw [hW8] at HB8 HP8 HR8 HF8
            clear hf hb7 hp7 hs10 hC8 hW8 HB6 HX6 HP6 z0 z1 HS6 HBY hsys HS' HD2 EA
            go_wp2_with fail
            go_roundw
            case rel => exact ⟨i + 1, rows', A10, n10, c10, by omega, by go_num, HB8, ⟨hn10, hc10, hm10⟩, HR8, HSY, HD3, HF8, HP8⟩
            case measure => simp [intOf]; omega
          · have e2 : (er != 0) = true := by simp [he0]
            have ED : Hid (decodeF B K xs = ([], er)) := by
              rw [Hid, D0.out, HD2.out, if_pos he0]
              exact if_pos he0
            clear he0 hf hs10 HS' HD2 EA
            go_wp2_with fail
            go_ret2
            exact decPost_err ED.out ((HF.out.trans HF7.out).trans (frAlloc _ _))
        · have e1 : (ck != 0) = true := by simp [hc0]
          have ED : Hid (decodeF B K xs = ([], ck)) := by
            rw [Hid, D0.out, HDX.out, decRows, HCK2.out, if_pos hc0]
            exact if_pos hc0
          clear hc0 HDX HCK2
          go_wp2_with fail
          go_ret2
          exact decPost_err ED.out (HF.out.trans HF5.out)
      · obtain rfl : i = n := by omega
        have hde : xs.drop i = [] := List.drop_eq_nil_of_le (by rw [HL.out]; exact Nat.le_refl _)
        have HD2 : Hid (decRows b B K [] xs = (rows, 0)) := by rw [Hid, HD.out, hde]; rfl
        have hrl : rows.length = n9 := HR.out.1
        have D1 : Hid (decodeF B K xs = if n9 < b then ([], 8) else joinUp B K (knownF b rows)) := by
          rw [Hid, D0.out, HD2.out, if_neg (by simp), hrl]
        have hck8 : Hid (sysCheck (b : Int) K rows = 0) := sysCheck_of (by omega) ⟨K1, K2⟩ HS.out
        clear hde hrl HD HD2 D0
        by_cases hfull : n9 < b
        · have ED : Hid (decodeF B K xs = ([], 8)) := by rw [Hid, D1.out, if_pos hfull]
          go_wp2_with fail
          go_ret2
          exact decPost_err ED.out HF.out
        · have ED : Hid (decodeF B K xs = joinUp B K (knownF b rows)) := by rw [Hid, D1.out, if_neg hfull]
          go_wp2_with fail
          (with_reducible refine (solKnown_eq _ _ _ _ _ _ rows HR.out hck8.out).mono ?_)
          rintro e v9 ⟨g1, m1, rfl, hm1, hm24, hk1, hf⟩
          obtain rfl : m1 = b := by omega
          have hp9 := blk_go HP.out hf
          (obtain ⟨x0, x1⟩ := box2_ hp9)
          have HF9 : Hid (Fr w v9) := HF.out.trans hf
          have HK1 := Lib.hid hk1.nb
          clear hf hp9 hk1 hm1
          go_wp2_with fail
          (with_reducible refine (cutJoin_any _ _ _ _ _ _ (knownF m1 rows) HK1.out wB wK).mono ?_)
          rintro e v10 ⟨A11, n11, c11, rfl, hn11, hc11, hm11, hs11, hf⟩
          have HF10 : Hid (Fr w v10) := HF9.out.trans hf
          have HS11 := Lib.hid hs11
          clear hf hs11
          go_wp2_with fail
          go_ret2
          rw [ED.out]
          exact ⟨A11, n11, c11, rfl, ⟨hn11, hc11, hm11⟩, HS11.out, HF10.out⟩

set_option maxRecDepth 100000 in
set_option maxHeartbeats 1000000 in
theorem decode_any (w : World) (B K : Int) (wB : wfI B) (wK : wfI K) (A : Option Addr) (n c : Nat) (xs : List Sm) (h : Sl 2 eSm w (LT w.heap.size) A n xs) (hnm : n ≤ maxLen) :
    Calls Tryz.prog 143 #[.agg #[.int .i64 B, .int .i64 K], .slice A n c] w (DecPost w (decodeF B K xs)) := by
  by_cases hck : cutCheck B K = 0
  · obtain ⟨c1, c2, c3, c4, _⟩ := cutCheck_ok hck
    by_cases hn : n ≤ 60
    · obtain ⟨k, rfl⟩ := Int.eq_ofNat_of_zero_le (show 0 ≤ K by omega)
      obtain ⟨b, hb⟩ := Int.eq_ofNat_of_zero_le (show 0 ≤ blocksOf B k by omega)
      exact decode_good w B k b A n c xs h hn hck hb
    · have ED : Hid (decodeF B K xs = ([], 2)) := by
        unfold decodeF Hid
        rw [if_neg (by simp [hck]), if_pos (by rw [h.1]; omega)]
      have hn1 : decide ((60 : Int) < (n : Int)) = true := by simp; omega
      have hn2 : decide (60 < n) = true := by simp; omega
      have HC := Lib.hid hck
      unfold maxLen at hnm
      clear h hck c1 c2 c3 c4 hn
      go_enter Tryz.func143, Tryz.ntmps143
      go_wp2_with fail
      (with_reducible refine (cutCheck_any _ _ _ wB wK).mono ?_)
      rw [HC.out]
      rintro e v1 ⟨rfl, hf⟩
      have HF1 : Hid (Fr w v1) := Fr.trans (by (repeat' (first | exact Below.refl _ _ | refine below_drewN ?_ _ | refine Below.drew ?_ | refine frA ?_ _))) hf
      clear hf
      go_wp2_with fail
      go_ret2
      exact decPost_err ED.out HF1.out
  · obtain ⟨ck, hk⟩ : ∃ ck, ck = cutCheck B K := ⟨_, rfl⟩
    have ED : Hid (decodeF B K xs = ([], ck)) := by
      unfold decodeF Hid
      rw [if_pos hck, hk]
    have e1 : (ck != 0) = true := by rw [hk, bne_iff_ne]; exact hck
    (have Hk := Lib.hid hk; clear hk)
    clear h hck
    go_enter Tryz.func143, Tryz.ntmps143
    go_wp2_with fail
    (with_reducible refine (cutCheck_any _ _ _ wB wK).mono ?_)
    rw [← Hk.out]
    rintro e v1 ⟨rfl, hf⟩
    have HF1 : Hid (Fr w v1) := Fr.trans (by (repeat' (first | exact Below.refl _ _ | refine below_drewN ?_ _ | refine Below.drew ?_ | refine frA ?_ _))) hf
    clear hf
    go_wp2_with fail
    go_ret2
    exact decPost_err ED.out HF1.out
end Go.Proofs.YtmiaplgfbphfmaaGreatDoor
namespace Go.Proofs.YtmiaplgfbphfmaaGreatDoor
open Go.RowKit
attribute [local irreducible] wpList

set_option maxRecDepth 100000 in
set_option maxHeartbeats 8000000 in
theorem deliver_any (w : World) (T : Nat → Prop) (base g cap : Nat) (xs : List Kp) (i : Nat) (x : Kp) (A : Option Addr) (n c : Nat) (vS vT : Value) (h : Foc0 T w base g cap xs i x A n c vS vT) (me time seq : Int) (Ap : Option Addr) (np cp : Nat) (r : Rc) (B : Option Addr) (nb cb : Nat) (B2 : Option Addr) (nb2 cb2 : Nat) (hy : Byt w (LT w.heap.size) B2 nb2 cb2 r.cargo) :
    Calls Tryz.prog 112 #[.agg #[.int .i64 me, .slice Ap np cp, .int .i64 time, .int .i64 seq], .pointer (some ⟨g, i * 16, none⟩), .agg #[.int .i64 r.kind, .int .i64 r.place, .int .i64 r.n, .int .i64 r.try_, .int .i64 r.h.frm, .int .i64 r.h.seq, .int .i64 r.h.to, .int .i64 r.h.till, .int .i64 r.h.bytes, .int .i64 r.h.block, .int .i64 r.s.id, .slice B nb cb, .slice B2 nb2 cb2]] w (FocPost T w base g cap xs i A n c vS vT (deliverF me x r)) := by
  obtain ⟨A2, c2, rfl, ⟨hc2, hm2⟩, hs2⟩ := h.foc.syms.slC (sSm.inn T) (by decide)
  have hl60 := h.foc.l1
  obtain ⟨⟨_, _, _, _, wB, wK⟩, _⟩ := h.foc.wf
  have E := Lib.hid (deliverF.eq_1 me x r)
  obtain ⟨dl, hdl⟩ : ∃ o, o = x.delivered := ⟨_, rfl⟩
  obtain ⟨pg, hpg⟩ : ∃ o, o = x.purged := ⟨_, rfl⟩
  obtain ⟨D, hD⟩ : ∃ D, D = decodeF x.h.bytes x.h.block x.syms := ⟨_, rfl⟩
  rw [← hdl, ← hpg, ← hD] at E
  have H := Lib.hid h
  have hgl := h.foc.gl
  have HY := Lib.hid hy
  have HDL := Lib.hid hdl
  have HPG := Lib.hid hpg
  have DC : Hid (∀ W, Fr w W → Calls Tryz.prog 143 #[.agg #[.int .i64 x.h.bytes, .int .i64 x.h.block], .slice A2 x.syms.length c2] W (DecPost W D)) := fun W hf => by
    rw [hD]
    exact decode_any W _ _ wB wK _ _ _ _ (Sl.ofIn sSm (hs2.go (sSm.inn T) hf)) (by unfold maxLen; omega)
  clear h hy hdl hpg hs2 hD
  go_enter Tryz.func112, Tryz.ntmps112
  go_upto_region 1 with fail
  obtain ⟨W1, hW1⟩ : ∃ W1, W1 = (w.alloc (.cells #[.int .i64 me, .slice Ap np cp, .int .i64 time, .int .i64 seq] 25)).alloc (.cells #[.int .i64 r.kind, .int .i64 r.place, .int .i64 r.n, .int .i64 r.try_, .int .i64 r.h.frm, .int .i64 r.h.seq, .int .i64 r.h.to, .int .i64 r.h.till, .int .i64 r.h.bytes, .int .i64 r.h.block, .int .i64 r.s.id, .slice B nb cb, .slice B2 nb2 cb2] 40) := ⟨_, rfl⟩
  obtain ⟨p, hp⟩ : ∃ p, p = w.heap.size := ⟨_, rfl⟩
  have hbp : W1.heap[p]? = some (.cells #[.int .i64 me, .slice Ap np cp, .int .i64 time, .int .i64 seq] 25 (0, 0)) := by rw [hW1]; exact heap_old (heap_new hp)
  have hbx : W1.heap[p + 1]? = some (.cells #[.int .i64 r.kind, .int .i64 r.place, .int .i64 r.n, .int .i64 r.try_, .int .i64 r.h.frm, .int .i64 r.h.seq, .int .i64 r.h.to, .int .i64 r.h.till, .int .i64 r.h.bytes, .int .i64 r.h.block, .int .i64 r.s.id, .slice B nb cb, .slice B2 nb2 cb2] 40 (0, 0)) := by rw [hW1]; exact heap_new (by rw [hp]; simp)
  have HF1 : Hid (Fr w W1) := by rw [hW1]; exact (frAlloc _ _).trans (frAlloc _ _)
  rw [← hW1, ← hp]
  clear hW1 hp
  have hcl := (H.out.fr HF1.out).foc.cells
  rw [← HDL.out, ← HPG.out] at hcl
  have HCL := Lib.hid hcl
  obtain ⟨m0, m1, m2, m3, m4, m5, m6, m7, m8, m9, m10, m11, m12, m13, m14, m15⟩ := hcl
  (obtain ⟨bp0, bp1, bp2, bp3⟩ := box4_ hbp)
  (obtain ⟨bx0, bx1, bx2, bx3, bx4, bx5, bx6, bx7, bx8, bx9, bx10, bx11, bx12⟩ := box13_ hbx)
  have HBX := Lib.hid hbx
  clear hbx hbp m0 m1 m3 m6 m7 m9 m10 m11 m12 m13 bx0 bx1 bx2 bx3 bx4 bx5 bx6 bx7 bx8 bx9 bx10 bx11 bp1 bp2 bp3
  by_cases h1 : x.h.to = me
  case neg =>
    have E1 := Lib.hid (E.out.trans (if_pos h1))
    have t1 : (x.h.to != me) = true := by simp [h1]
    clear E h1
    go_wp2_with fail
    go_quiet (fail)
    go_wp2_with fail
    go_ret
    exact H.out.same (by (repeat' (first | exact Below.refl _ _ | refine below_drewN ?_ _ | refine Below.drew ?_ | refine frA ?_ _ | refine Fr.trans ?_ HF1.out))) E1.out
  case pos =>
  have E1 := Lib.hid (E.out.trans (if_neg (fun e => e h1)))
  have t1 : (x.h.to != me) = false := by simp [h1]
  clear E h1
  go_wp2_with fail
  go_quiet (fail)
  obtain ⟨W2, hW2⟩ : ∃ W2, W2 = W1.drewN nq := ⟨_, rfl⟩
  have HF12 : Hid (Fr W1 W2) := by rw [hW2]; exact below_drewN (Below.refl _ _) _
  rw [← hW2]
  have HF2 : Hid (Fr w W2) := HF1.out.trans HF12.out
  have hbx := blk_go HBX.out HF12.out
  clear hW2 m2 m4 m5 m8 m14 m15 bp0 bx12 HBX HCL HF1
  have H2 := Lib.hid (H.out.fr HF2.out)
  have hcl := H2.out.foc.cells
  rw [← HDL.out, ← HPG.out] at hcl
  obtain ⟨m0, m1, m2, m3, m4, m5, m6, m7, m8, m9, m10, m11, m12, m13, m14, m15⟩ := hcl
  (obtain ⟨bx0, bx1, bx2, bx3, bx4, bx5, bx6, bx7, bx8, bx9, bx10, bx11, bx12⟩ := box13_ hbx)
  have HBX := Lib.hid hbx
  clear hbx m0 m1 m2 m3 m6 m7 m9 m10 m11 m12 m13 bx0 bx1 bx2 bx3 bx4 bx5 bx6 bx7 bx8 bx9 bx10 bx11
  cases hdp : (dl || pg) with
  | true =>
    have E2 : Hid (deliverF me x r = (x, 7)) := E1.out.trans (if_pos (by simpa using hdp))
    clear E1
    revert hdp
    cases dl <;> cases pg <;> intro hdp <;> first | (exact absurd hdp (by decide)) | (clear hdp; go_wp2_with fail; go_ret; exact H.out.same HF2.out E2.out)
  | false =>
  obtain ⟨rfl, rfl⟩ : dl = false ∧ pg = false := by revert hdp; cases dl <;> cases pg <;> decide
  have E2 := Lib.hid (E1.out.trans (if_neg (by simp)))
  clear E1 hdp HDL HPG t1
  have hSC : Hid (∀ w', Fr W2 w' → w'.cell? ⟨g, i * 16 + 4, none⟩ = some (.int .i64 x.h.bytes) ∧ w'.cell? ⟨g, i * 16 + 5, none⟩ = some (.int .i64 x.h.block) ∧ w'.cell? ⟨g, i * 16 + 8, none⟩ = some (.slice A2 x.syms.length c2)) := fun w' hf => ⟨(hf.cell (World.block_lt_of_cell? W2 _ m4)).trans m4, (hf.cell (World.block_lt_of_cell? W2 _ m5)).trans m5, (hf.cell (World.block_lt_of_cell? W2 _ m8)).trans m8⟩
  go_upto_region 5 with fail
  clear m4 m5 m8 m14 m15 bx12
  refine held_begin (n := 15) (bs := #[false, false, false, false, false, false, false, false, false, false, false, false, false, false, false]) rfl rfl (by kernel_rfl) (S := fun w' => w'.cell? ⟨g, i * 16 + 4, none⟩ = some (.int .i64 x.h.bytes) ∧ w'.cell? ⟨g, i * 16 + 5, none⟩ = some (.int .i64 x.h.block) ∧ w'.cell? ⟨g, i * 16 + 8, none⟩ = some (.slice A2 x.syms.length c2)) (hSC.out _ (Below.refl _ _).drew) (fun hHeld => ?_)
  ((first | refine held_sk (i := 0) ?_ | refine held_tk (i := 0) ?_); (first | refine held_sk (i := 1) ?_ | refine held_tk (i := 1) ?_); (first | refine held_sk (i := 2) ?_ | refine held_tk (i := 2) ?_); (first | refine held_sk (i := 3) ?_ | refine held_tk (i := 3) ?_); (first | refine held_sk (i := 4) ?_ | refine held_tk (i := 4) ?_); (first | refine held_sk (i := 5) ?_ | refine held_tk (i := 5) ?_); (first | refine held_sk (i := 6) ?_ | refine held_tk (i := 6) ?_); (first | refine held_sk (i := 7) ?_ | refine held_tk (i := 7) ?_); (first | refine held_sk (i := 8) ?_ | refine held_tk (i := 8) ?_))
  refine held_one (i := 9) rfl (by kernel_rfl) (fun K hK => ?_)
  go_simp
  go_at_call 143
  (with_reducible refine (DC.out _ (HF2.out.trans (Below.refl _ _).drew)).mono ?_)
  rintro e w6 ⟨A6, n6, c6, rfl, ⟨hn6, hc6, hm6⟩, hs6, hf6⟩
  have HF26 : Hid (Fr W2 w6) := Fr.trans (Below.refl _ _).drew hf6
  have HS6 := Lib.hid hs6
  clear hs6 hf6
  (refine held_back hK (a' := ?hA1) (l' := ?hL1) ?ha1 ?hl1 (hSC.out _ HF26.out) (fun hHeld => ?hh1); (case ha1 => first | with_reducible rfl | (simp only [Act.put, hq1, hq2, hq3, Option.isNone, Bool.not_true, Bool.not_false]; (try with_reducible rfl))); (case hl1 => (simp only [Act.put, hq1, hq2, hq3, Option.isNone, Bool.not_true, Bool.not_false]; (try with_reducible rfl))); clear hK K)
  ((first | refine held_sk (i := 10) ?_ | refine held_tk (i := 10) ?_); (first | refine held_sk (i := 11) ?_ | refine held_tk (i := 11) ?_); (first | refine held_sk (i := 12) ?_ | refine held_tk (i := 12) ?_); (first | refine held_sk (i := 13) ?_ | refine held_tk (i := 13) ?_); (first | refine held_sk (i := 14) ?_ | refine held_tk (i := 14) ?_))
  refine wpAnyH_done (by kernel_rfl) ?_ _
  have HF6 : Hid (Fr w w6) := HF2.out.trans HF26.out
  have hbx := blk_go HBX.out HF26.out
  have H6 := Lib.hid (H.out.fr HF6.out)
  obtain ⟨m0, m1, m2, m3, m4, m5, m6, m7, m8, m9, m10, m11, m12, m13, m14, m15⟩ := H6.out.foc.cells
  (obtain ⟨bx0, bx1, bx2, bx3, bx4, bx5, bx6, bx7, bx8, bx9, bx10, bx11, bx12⟩ := box13_ hbx)
  clear hbx HBX m0 m1 m2 m3 m4 m5 m6 m7 m8 m9 m10 m11 m12 m13 m15 bx0 bx1 bx2 bx3 bx4 bx5 bx6 bx7 bx8 bx9 bx10 bx11 DC hSC hHeld H2
  by_cases h3 : D.2 = 0
  case neg =>
    have E3 := Lib.hid (E2.out.trans (if_pos h3))
    have t3 : (D.2 != 0) = true := by simp [h3]
    clear E2 h3
    go_wp2_with fail
    go_ret
    exact H.out.same HF6.out E3.out
  case pos =>
  have E3 := Lib.hid (E2.out.trans (if_neg (fun e => e h3)))
  have t3 : (D.2 != 0) = false := by simp [h3]
  clear E2
  obtain ⟨q, hq⟩ : ∃ q, q = decide (D.1 = r.cargo) := ⟨_, rfl⟩
  have EQ := Lib.hid (equalBytes_any w6 _ _ _ _ _ c6 _ cb2 _ _ HS6.out (HY.out.2.go sByte HF6.out) (by unfold maxLen; omega))
  rw [← hq] at EQ
  (have Hq := Lib.hid hq; clear hq; have H3 := Lib.hid h3; clear h3)
  go_wp2_with fail
  (with_reducible refine (EQ.out).mono ?_)
  rintro e w7 ⟨rfl, m, hw7⟩
  have HF67 : Hid (Fr w6 w7) := by rw [hw7]; exact below_drewN (Below.refl _ _) _
  have HF7 : Hid (Fr w w7) := HF6.out.trans HF67.out
  have H7 := Lib.hid (H.out.fr HF7.out)
  have m14' := H7.out.foc.cell (t := 14) (by decide)
  simp only [kpCells] at m14'
  clear hw7 m14 bx12 EQ H6
  cases q with
  | false =>
    have E4 := Lib.hid (E3.out.trans (if_pos (by simpa using Hq.out)))
    clear E3
    go_wp2_with fail
    go_ret
    exact H.out.same HF7.out E4.out
  | true =>
    have E4 := Lib.hid (E3.out.trans (if_neg (by simpa using Hq.out)))
    have gf := H7.out.foc.free (i * 16 + 14)
    have hgl7 := H7.out.foc.gl
    clear E3
    have HX : Hid (Foc T (w7.setCell ⟨g, i * 16 + 14, none⟩ (.bool true)) base g cap xs i { x with delivered := true } A n c (.slice A2 x.syms.length c2) vT) := H7.out.foc.set (t := 14) (by decide) rfl H7.out.foc.wf H7.out.foc.cargo H7.out.foc.syms H7.out.foc.took H7.out.foc.l1 H7.out.foc.l2
    have HC : Hid (Chg (FocS g (.slice A2 x.syms.length c2) vT) w (w7.setCell ⟨g, i * 16 + 14, none⟩ (.bool true))) := Chg.set (p := ⟨g, i * 16 + 14, none⟩) (HF7.out.chg) (.inl rfl) _
    clear H7
    go_wp2_with fail
    (with_reducible refine (over_any _ T base g cap xs i { x with delivered := true } A n c A2 x.syms.length c2 vT HX.out).mono ?_)
    rintro e w9 ⟨rfl, hC9, hF9⟩
    have HC9 : Hid (Chg (FocS g (.slice A2 x.syms.length c2) vT) w w9) := Chg.tr2 HC.out (T := FocS g (.slice A2 x.syms.length c2) vT) (hC9.more fun b hb => .inl hb) fun b hb => .inl hb
    have HF9 := Lib.hid hF9
    clear hC9 hF9
    go_wp2_with fail
    go_ret
    rw [E4.out]
    exact ⟨rfl, HC9.out, _, _, HF9.out⟩
end Go.Proofs.YtmiaplgfbphfmaaGreatDoor
