/- The contract of cut.Join. No condition. -/
import Derived.Test.YtnfjghldcopaaaaCut
set_option linter.unusedSimpArgs false
set_option linter.unusedVariables false
namespace Go.Proofs.Ytnfjghldcopaaaa
open Go.RowKit

set_option maxHeartbeats 2000000 in
theorem cutJoin_body (w : World) (A : Option Addr) (n c B K : Nat) (ls : List (List UInt8)) (h : Sl 1 eBlock w (LT w.heap.size) A n ls) (hck : cutCheck B K = 0) (hn : (n : Int) = blocksOf B K) :
    Calls Try.prog 73 #[.agg #[.int .i64 B, .int .i64 K], .slice A n c] w fun e w' => ∃ A' n' c', e = .returned (.tuple #[.slice A' n' c', .int .i64 (joinUp B K ls).2]) ∧ n' ≤ 360 ∧ n' ≤ c' ∧ c' ≤ maxLen ∧ Sl 1 eByte w' (LT w'.heap.size) A' n' (joinUp B K ls).1 ∧ Fr w w' := by
  obtain ⟨⟨h1, h2⟩, ⟨h3, h4⟩, h5, h6, _⟩ := cutCheck_ok hck
  have CC := Lib.hid (fun W : World => cutCheck_any W (B : Int) (K : Int) (wfI.mk (by omega)) (wfI.mk (by omega)))
  rw [hck] at CC
  have CB := Lib.hid (fun W : World => cutBlocks_any W (B : Int) (K : Int) (wfI.mk (by omega)) (wfI.mk (by omega)))
  rw [← hn] at CB
  have hlen := h.1
  obtain ⟨hm1, hm2⟩ := blocks_hold hck hn
  have hb : 1 ≤ B ∧ B ≤ 360 ∧ 1 ≤ K ∧ K ≤ 16 ∧ 1 ≤ n := by omega
  obtain ⟨hB1, hB2, hK1, hK2, hn1⟩ := hb
  have HN : Hid ((ls.length : Int) = blocksOf B K) := by rw [Hid, hlen]; exact hn
  have hne : ((n : Int) != (n : Int)) = false := by simp
  clear h1 h2 h3 h4 h5 h6 hn
  (have H := Lib.hid h; clear h; have Hck := Lib.hid hck; clear hck; have Hlen := Lib.hid hlen; clear hlen)
  go_enter Try.func73, Try.ntmps73
  go_wp2_with fail
  refine (CC.out _).mono ?_
  rintro e w1 ⟨rfl, hf1⟩
  have hf0 : Fr w w1 := (frAlloc _ _).trans hf1
  obtain ⟨hb0, hb1⟩ := box2 hf1
  (have Hf1 := Lib.hid hf1; clear hf1; have Hf0 := Lib.hid hf0; clear hf0)
  go_wp2_with fail
  refine (CB.out _).mono ?_
  rintro e w2 ⟨rfl, hf2⟩
  have hb0 := (hf2.cell (World.block_lt_of_cell? w1 _ hb0)).trans hb0
  have hb1 := (hf2.cell (World.block_lt_of_cell? w1 _ hb1)).trans hb1
  have hs2 := H.out.go wBlock (Hf0.out.trans hf2)
  (have Hf2 := Lib.hid hf2; clear hf2; have Hs2 := Lib.hid hs2; clear hs2)
  go_wp2_with fail
  go_loopw [7, 24] (fun v i wr => ∃ k : Nat, k ≤ n ∧ i = .int .i64 k ∧ Hid (Own 1 eByte wr w2.heap.size 5 v (ls.take k).flatten) ∧ Hid (∀ b ∈ ls.take k, b.length = K) ∧ Hid (Fr w2 wr)) (fun _ i _ => n - (intOf i).toNat)
  case atStart => exact ⟨0, Nat.zero_le _, rfl, Own.nil, by simp [Hid], Below.refl _ _⟩
  case round =>
    obtain ⟨k, hk, rfl, HO, HL, HF⟩ := hrel
    have hb0' : wr.cell? ⟨w.heap.size, 0, none⟩ = some (.int .i64 B) := (HF.out.cell (World.block_lt_of_cell? w2 _ hb0)).trans hb0
    have hb1' : wr.cell? ⟨w.heap.size, 1, none⟩ = some (.int .i64 K) := (HF.out.cell (World.block_lt_of_cell? w2 _ hb1)).trans hb1
    have hfl : Hid ((ls.take k).flatten.length = k * K) := by
      rw [Hid, length_flatten HL.out, List.length_take, Hlen.out, Nat.min_eq_left hk]
    by_cases hlt : k < n
    · obtain ⟨ad, rfl, hE⟩ := Hs2.out.els (by omega)
      obtain ⟨A', n', c', l, hl, hcl, hm', hs⟩ := hE.block hlt
      have hcw : wr.cell? (ad.add k) = some (.slice A' n' c') := (HF.out.cell (p := ad.add k) (by rw [block_of_add]; exact hE.2.1)).trans hcl
      have hkK : k * K ≤ 24 * 16 := Nat.mul_le_mul (by omega) hK2
      by_cases hnK : n' = K
      · subst hnK
        have hne2 : ((n' : Int) != (n' : Int)) = false := by simp
        obtain ⟨adb, rfl, hbE⟩ := hs.els (by omega)
        have HC : Hid (∀ j u, (l.map bV)[j]? = some u → wr.cell? (adb.add j) = some u) := by
          intro j u hu
          rw [List.getElem?_map] at hu
          obtain ⟨y, hy, rfl⟩ := Option.map_eq_some_iff.1 hu
          refine (HF.out.cell (p := adb.add j) (by rw [block_of_add]; exact hbE.2.1)).trans ?_
          simpa [eByte, bV] using hbE.2.2 j y hy
        have HT : Hid ((ls.take (k + 1)).flatten = (ls.take k).flatten ++ l) := by rw [Hid, take_snoc' hl, List.flatten_append]; simp
        have HL' : Hid (∀ b ∈ ls.take (k + 1), b.length = n') := by
          intro b hb
          rw [take_snoc' hl] at hb
          rcases List.mem_append.1 hb with hb | hb
          · exact HL.out b hb
          · rw [List.mem_singleton.1 hb]; exact hs.1
        have hll := Lib.hid hs.1
        clear hl hcl hs
        go_wp2_with (at_builtin; refine wpList_apps2 _ rfl _ _ 26 27 rfl w2.heap.size 5 (bV 0) 1 1 Try.underlying26 Try.underlying27 infoByte rfl (by decide) sByte _ (ls.take k).flatten rfl HO.out adb n' c' (l.map bV) rfl ?c1 HC.out ?c2 l ?c3 ?c4 ?c5 ?c6 ?c7 ?_)
        case c1 => have := hll.out; simp; omega
        case c2 => intro u hu; obtain ⟨y, _, rfl⟩ := List.mem_map.1 hu; rfl
        case c3 => exact hll.out
        case c4 => intro i x hx; simp [eByte, hx, bV]
        case c5 => have := hfl.out; unfold maxLen; omega
        case c6 => have := hfl.out; unfold lim; omega
        case c7 => exact HF.out.size
        · intro v' w3 ho3 hg3 hge3
          have HO3 : Hid (Own 1 eByte w3 w2.heap.size 5 v' (ls.take (k + 1)).flatten) := by rw [HT.out]; exact ho3
          have HF3 : Hid (Fr w2 w3) := HF.out.grown hg3 HF.out.size hge3
          clear ho3 hg3 hge3 hcw hb0' hb1'
          go_wp2
          go_roundw
          case rel => exact ⟨k + 1, by omega, by go_num, HO3, HL', HF3⟩
          case measure => simp [intOf]; omega
      · have hne2 : ((n' : Int) != (K : Int)) = true := by rw [bne_iff_ne]; omega
        have E : Hid (joinUp B K ls = ([], 4)) := join_form Hck.out HN.out (List.mem_of_getElem? hl) (by rw [hs.1]; omega)
        clear hl hcl hs hnK
        go_wp2_with fail
        go_ret2
        rw [E.out]
        exact ⟨none, 0, 0, rfl, by omega, by omega, by unfold maxLen; omega, Sl.nil, by (repeat' (first | exact Below.refl _ _ | refine below_drewN ?_ _ | refine Below.drew ?_ | refine frA ?_ _ | refine Fr.trans ?_ HF.out | refine Fr.trans ?_ Hf2.out | refine Fr.trans ?_ Hf0.out))⟩
    · obtain rfl : k = n := by omega
      have ht : Hid (ls.take k = ls) := List.take_of_length_le (by have := Hlen.out; omega)
      rw [ht.out] at HO HL hfl
      obtain ⟨X, hX⟩ : ∃ X, X = ls.flatten := ⟨_, rfl⟩
      rw [← hX] at HO hfl
      have HX := Lib.hid hX
      have hkK : k * K ≤ 24 * 16 := Nat.mul_le_mul (by omega) hK2
      obtain ⟨T, hT⟩ : ∃ T, T = k * K := ⟨_, rfl⟩
      rw [← hT] at hfl hkK hm1
      obtain ⟨A2, c2, rfl, ⟨hc1, hc2⟩, hsl⟩ := HO.out.slC sByte (by decide)
      rw [hfl.out] at hsl hc1 ⊢
      have HC := Lib.hid (hsl.cut (k := B) (cap := c2) hm1 hc1)
      have HS := Lib.hid hsl
      have HHL : Hid (∀ b ∈ ls, (b.length : Int) = K) := fun b hb => by rw [HL.out b hb]
      obtain ⟨adX, rfl, hXE⟩ := hsl.els (by omega)
      clear hX hT hsl HL
      have HPRE : Hid (Sl 1 eByte wr (LT wr.heap.size) (some adX) B (X.take B)) := hXE.sl.pre hm1
      by_cases hcB : c2 = B
      · have hTB : T = B := by omega
        have E : Hid (joinUp B K ls = (X.take B, 0)) := by
          rw [HX.out]
          refine join_ok Hck.out HN.out HHL.out fun x hx => ?_
          rw [← HX.out, List.drop_eq_nil_of_le (by have := hfl.out; omega)] at hx
          simp at hx
        subst hTB
        subst hcB
        clear HC
        go_wp2_with fail
        refine wp_loop_rounds 1 ?_
        rw [rounds_succ]
        go_wp2_with fail
        go_ret2
        rw [E.out]
        exact ⟨some adX, c2, c2, rfl, hB2, by omega, hc2, HPRE.out, by (repeat' (first | exact Below.refl _ _ | refine below_drewN ?_ _ | refine Below.drew ?_ | refine frA ?_ _ | refine Fr.trans ?_ HF.out | refine Fr.trans ?_ Hf2.out | refine Fr.trans ?_ Hf0.out))⟩
      · rw [if_neg hcB] at HC
        have HHN := HN
        go_wp2_with fail
        go_loop [42] (fun i => ∃ j : Nat, j ≤ T - B ∧ i = .int .i64 j ∧ Hid (∀ x ∈ (X.drop B).take j, x = 0)) (fun i => (T - B) - (intOf i).toNat)
        case atStart => exact ⟨0, Nat.zero_le _, rfl, by simp [Hid]⟩
        case round =>
          obtain ⟨j, hj, rfl, HZ⟩ := hrel
          by_cases hlt : j < T - B
          · obtain ⟨ad3, had3, hE3⟩ := HC.out.els (by omega)
            obtain rfl : adX.add (B * 1) = ad3 := by simpa using had3
            obtain ⟨x, hx, hcx⟩ := hE3.byte hlt
            rw [Nat.mul_one] at hcx
            by_cases hx0 : x = 0
            · subst hx0
              have HZ' : Hid (∀ x ∈ (X.drop B).take (j + 1), x = 0) := by
                intro y hy
                rw [take_snoc' hx] at hy
                rcases List.mem_append.1 hy with hy | hy
                · exact HZ.out y hy
                · exact List.mem_singleton.1 hy
              have hcx2 : wr.cell? ((adX.add B).add j) = some (.int .u8 0) := hcx
              clear hx hcx had3
              go_wp2_with fail
              go_round
              case rel => exact ⟨j + 1, by omega, by go_num, HZ'⟩
              case measure => simp [intOf]; omega
            · have hxb : ((x.toNat : Int) != 0) = true := by
                rw [bne_iff_ne]; intro e; exact hx0 (UInt8.toNat_inj.1 (by simpa using e))
              have E : Hid (joinUp B K ls = ([], 4)) := join_behind Hck.out HN.out HHL.out (by rw [← HX.out]; exact hx) hx0
              clear hx had3 hx0
              go_wp2_with fail
              go_ret2
              rw [E.out]
              exact ⟨none, 0, 0, rfl, by omega, by omega, by unfold maxLen; omega, Sl.nil, by (repeat' (first | exact Below.refl _ _ | refine below_drewN ?_ _ | refine Below.drew ?_ | refine frA ?_ _ | refine Fr.trans ?_ HF.out | refine Fr.trans ?_ Hf2.out | refine Fr.trans ?_ Hf0.out))⟩
          · have E : Hid (joinUp B K ls = (X.take B, 0)) := by
              rw [HX.out]
              refine join_ok Hck.out HN.out HHL.out fun x hx => HZ.out x ?_
              rw [List.take_of_length_le (by rw [List.length_drop, hfl.out]; omega), HX.out]
              exact hx
            clear HC
            go_wp2_with fail
            go_ret2
            rw [E.out]
            exact ⟨some adX, B, B, rfl, hB2, by omega, by unfold maxLen; omega, HPRE.out, by (repeat' (first | exact Below.refl _ _ | refine below_drewN ?_ _ | refine Below.drew ?_ | refine frA ?_ _ | refine Fr.trans ?_ HF.out | refine Fr.trans ?_ Hf2.out | refine Fr.trans ?_ Hf0.out))⟩

set_option maxHeartbeats 400000 in
/-- What cut.Join answers. -/
theorem cutJoin_any (w : World) (A : Option Addr) (n c : Nat) (B K : Int) (ls : List (List UInt8)) (h : Sl 1 eBlock w (LT w.heap.size) A n ls) (wB : wfI B) (wK : wfI K) :
    Calls Try.prog 73 #[.agg #[.int .i64 B, .int .i64 K], .slice A n c] w fun e w' => ∃ A' n' c', e = .returned (.tuple #[.slice A' n' c', .int .i64 (joinUp B K ls).2]) ∧ n' ≤ 360 ∧ n' ≤ c' ∧ c' ≤ maxLen ∧ Sl 1 eByte w' (LT w'.heap.size) A' n' (joinUp B K ls).1 ∧ Fr w w' := by
  have hl := h.1
  by_cases hck : cutCheck B K = 0
  · obtain ⟨b, rfl⟩ := Int.eq_ofNat_of_zero_le (show 0 ≤ B by have := (cutCheck_ok hck).1; omega)
    obtain ⟨k, rfl⟩ := Int.eq_ofNat_of_zero_le (show 0 ≤ K by have := (cutCheck_ok hck).2.1; omega)
    by_cases hn : (n : Int) = blocksOf b k
    · exact cutJoin_body w A n c b k ls h hck hn
    · have E : Hid (joinUp b k ls = ([], 8)) := join_short hck (by rw [hl]; exact hn)
      have CC := Lib.hid (fun W : World => cutCheck_any W b k wB wK)
      rw [hck] at CC
      have CB := Lib.hid (fun W : World => cutBlocks_any W b k wB wK)
      obtain ⟨q, hq⟩ : ∃ q, q = blocksOf b k := ⟨_, rfl⟩
      rw [← hq] at hn CB
      have hne : ((n : Int) != q) = true := by rw [bne_iff_ne]; exact hn
      clear hck hn hl h hq
      go_enter Try.func73, Try.ntmps73
      go_wp2_with fail
      refine (CC.out _).mono ?_
      rintro e w1 ⟨rfl, hf1⟩
      have hf0 : Fr w w1 := (frAlloc _ _).trans hf1
      obtain ⟨hb0, hb1⟩ := box2 hf1
      (have Hf1 := Lib.hid hf1; clear hf1; have Hf0 := Lib.hid hf0; clear hf0)
      go_wp2_with fail
      refine (CB.out _).mono ?_
      rintro e w2 ⟨rfl, hf2⟩
      (have Hf2 := Lib.hid hf2; clear hf2)
      go_wp2_with fail
      go_ret2
      rw [E.out]
      exact ⟨none, 0, 0, rfl, by omega, by omega, by unfold maxLen; omega, Sl.nil, by (repeat' (first | exact Below.refl _ _ | refine below_drewN ?_ _ | refine Below.drew ?_ | refine frA ?_ _ | refine Fr.trans ?_ Hf2.out | refine Fr.trans ?_ Hf0.out))⟩
  · have E : Hid (joinUp B K ls = ([], cutCheck B K)) := join_err hck
    have CC := Lib.hid (fun W : World => cutCheck_any W B K wB wK)
    have hne : (cutCheck B K != 0) = true := by rw [bne_iff_ne]; exact hck
    clear hck hl h
    go_enter Try.func73, Try.ntmps73
    go_wp2_with fail
    refine (CC.out _).mono ?_
    rintro e w1 ⟨rfl, hf1⟩
    have hf0 : Fr w w1 := (frAlloc _ _).trans hf1
    (have Hf1 := Lib.hid hf1; clear hf1; have Hf0 := Lib.hid hf0; clear hf0)
    go_wp2_with fail
    go_ret2
    rw [E.out]
    exact ⟨none, 0, 0, rfl, by omega, by omega, by unfold maxLen; omega, Sl.nil, Hf0.out⟩
end Go.Proofs.Ytnfjghldcopaaaa
