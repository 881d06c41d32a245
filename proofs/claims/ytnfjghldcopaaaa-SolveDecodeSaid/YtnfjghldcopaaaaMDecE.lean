/- 'SolveDecode' answers true for every input, and leaves its arguments as they were. No condition. -/
import Derived.Test.YtnfjghldcopaaaaMDecA
import Derived.Test.YtnfjghldcopaaaaMDecD
import Derived.Test.YtnfjghldcopaaaaMDecB
import Derived.Test.YtnfjghldcopaaaaMDecC
import Derived.Test.YtnfjghldcopaaaaSolved
import Derived.Test.YtnfjghldcopaaaaOpen
import Derived.Test.YtnfjghldcopaaaaOpenR
set_option linter.unusedSimpArgs false
set_option linter.unusedVariables false
namespace Go.Proofs.Ytnfjghldcopaaaa
open Go.RowKit
attribute [local irreducible] wpList

/-- Rows lie in no box of a system. -/
theorem Sl.notSys {w : World} {S : Nat → Prop} {A : Option Addr} {n u : Nat} {rows : List Rw} {a b : Int} {v : Value} {t : TypeId} {fr : Nat × Nat} (h : Sl 2 eRw w S A n rows) (hu : w.heap[u]? = some (.cells #[.int .i64 a, .int .i64 b, v] t fr)) (hv1 : ∀ x, v ≠ .bool x) (hv2 : ∀ (x : UInt8), v ≠ .int .u8 (x.toNat : Int)) : Sl 2 eRw w (fun y => S y ∧ y ≠ u) A n rows := by
  refine ⟨h.1, fun hn => ?_⟩
  obtain ⟨ad, e, hb, hc⟩ := h.2 hn
  have hl := h.1
  refine ⟨ad, e, ⟨hb, fun e2 => ?_⟩, fun i x hx => ?_⟩
  · obtain ⟨A1, n1, c1, A2, n2, c2, ⟨k1, k2⟩, _, _⟩ := eRw_iff.1 (hc 0 rows[0] (List.getElem?_eq_getElem (by omega)))
    have k1 : w.cell? (ad.add 0) = some (.slice A1 n1 c1) := by simpa using k1
    have k2 : w.cell? (ad.add 1) = some (.slice A2 n2 c2) := by simpa using k2
    have h1 : (ad.add 0).block = u := by rw [block_of_add]; exact e2
    have h2 : (ad.add 1).block = u := by rw [block_of_add]; exact e2
    unfold World.cell? at k1 k2
    rw [h1, hu] at k1
    rw [h2, hu] at k2
    simp only at k1 k2
    split at k1
    · cases k1
    · split at k2
      · cases k2
      · simp [Addr.add] at k1 k2
        rcases ho : ad.off with _ | _ | _ | o
        · rw [ho] at k1; simp at k1
        · rw [ho] at k1; simp at k1
        · rw [ho] at k2; simp at k2
        · rw [ho] at k1; simp at k1
  · obtain ⟨A1, n1, c1, A2, n2, c2, hcs, k1, k2⟩ := eRw_iff.1 (hc i x hx)
    exact eRw_iff.2 ⟨A1, n1, c1, A2, n2, c2, hcs, ⟨k1.1, k1.2.notBool hu (sysCells_noB _ _ _ hv1)⟩, k2.1, k2.2.notByte hu (sysCells_noY _ _ _ hv2)⟩
/-- What reads as ints lies in no block of other cells. -/
theorem Sl.notInts {w : World} {S : Nat → Prop} {A : Option Addr} {n u : Nat} {L : List Int} {cs : Array Value} {t : TypeId} {fr : Nat × Nat} (h : Sl 1 eInt w S A n L) (hu : w.heap[u]? = some (.cells cs t fr)) (hno : ∀ (i : Nat) (x : Int), cs[i]? ≠ some (Value.int .i64 x)) : Sl 1 eInt w (fun y => S y ∧ y ≠ u) A n L := by
  refine ⟨h.1, fun hn => ?_⟩
  obtain ⟨ad, e, hb, hc⟩ := h.2 hn
  refine ⟨ad, e, ⟨hb, fun e2 => ?_⟩, hc⟩
  have hl := h.1
  have h0 : w.cell? (ad.add (0 * 1 + 0)) = some (.int .i64 _) := (hc 0 _ (List.getElem?_eq_getElem (by omega))).1
  have h1 : (ad.add (0 * 1 + 0)).block = u := by rw [block_of_add]; exact e2
  generalize ad.add (0 * 1 + 0) = ad' at h0 h1
  unfold World.cell? at h0
  rw [h1, hu] at h0
  simp only at h0
  split at h0
  · cases h0
  · exact hno _ _ h0
theorem boolsNoI {l : List Bool} : ∀ (i : Nat) (x : Int), (ca Value.bool l)[i]? ≠ some (Value.int .i64 x) := fun i x h => by
  simp [ca] at h

theorem lens_le {α : Type} {k : Nat} : ∀ (ls : List (List α)), (∀ l ∈ ls, l.length ≤ k) → lens ls ≤ ls.length * k
  | [], _ => by simp [lens]
  | l :: ls, h => by
    have h1 := lens_le ls fun x hx => h x (List.mem_cons_of_mem _ hx)
    have h2 := h l List.mem_cons_self
    simp only [lens, List.map_cons, List.sum_cons, List.length_cons] at h1 ⊢
    rw [Nat.succ_mul]; omega
theorem lens_known {b K : Nat} {rows : List Rw} (hs : Sys b K rows) (hK : K ≤ 16) (hb : b ≤ 24) : lens (knownF b rows) ≤ lim := by
  have h1 := lens_le (k := 16) (knownF b rows) fun l hl => by
    obtain ⟨k, hk⟩ := List.mem_iff_getElem?.1 hl
    rcases known_of hs hk with rfl | ⟨o, ho, _, _, rfl⟩
    · simp
    · have := (hs.fit o ho).2; omega
  have h2 : (knownF b rows).length = b := length_knownF _ _
  rw [h2] at h1
  unfold lim; omega

set_option maxRecDepth 100000 in
set_option maxHeartbeats 8000000 in
theorem refDec_good (w : World) (B : Int) (K b : Nat) (A : Option Addr) (n c : Nat) (xs : List Sm) (h : Sl 2 eSm w (LT w.heap.size) A n xs) (hn : n ≤ 60) (hck : cutCheck B K = 0) (hb : blocksOf B K = b) :
    Calls Try.prog 52 #[.agg #[.int .i64 B, .int .i64 K], .slice A n c] w (DecPost w (decodeF B K xs)) := by
  obtain ⟨⟨c1, c2⟩, ⟨c3, c4⟩, c5, c6, c7⟩ := cutCheck_ok hck
  have hd60 : decide ((60 : Int) < (n : Int)) = false := by simp; omega
  have hd61 : decide (60 < n) = false := by simp; omega
  have hlen := h.1
  have D0 : Hid (decodeF B K xs = if (decRows b B K [] xs).2 ≠ 0 then ([], (decRows b B K [] xs).2) else if (decRows b B K [] xs).1.length < b then ([], 8) else joinUp B K (knownF b (decRows b B K [] xs).1)) := by
    unfold decodeF Hid
    rw [if_neg (by simp [hck]), if_neg (by omega), hb, Int.toNat_natCast]
  have b1 : 1 ≤ b := by omega
  have b2 : b ≤ 24 := by omega
  have K1 : 1 ≤ K := by omega
  have K2 : K ≤ 16 := by omega
  have wB : wfI B := wfI.mk (by omega)
  have wK : wfI (K : Int) := wfI.mk (by omega)
  have wb : wfI (b : Int) := wfI.mk (by omega)
  have CB : Hid (∀ W : World, Calls Try.prog 82 #[.agg #[.int .i64 B, .int .i64 K]] W fun e w' => e = .returned (.int .i64 (b : Int)) ∧ Fr W w') := fun W => by
    have := refBlocks_any W B K wB wK
    rw [hb] at this; exact this
  have hmk2 := run_make_ca (P := Try.prog) Value.bool false 25 4 1 Try.underlying25 infoBool rfl .i64 .i64 b (by omega) (by omega)
  have HCK := Lib.hid hck
  have HL := Lib.hid hlen
  (have H := Lib.hid h; clear h)
  clear hck hb hlen c1 c2 c3 c4 c5 c6 c7
  go_enter Try.func52, Try.ntmps52
  go_wp2_with fail
  (with_reducible refine (refCheckPlan_any _ _ _ wB wK).mono ?_)
  rw [HCK.out]
  rintro e v1 ⟨rfl, hf⟩
  have HP1 : Hid (v1.heap[w.heap.size]? = some (.cells #[.int .i64 B, .int .i64 K] 47 (0, 0))) := blk_go (by (repeat' (with_reducible (first | (refine heap_new ?_; (first | (simp; done) | rfl); done) | refine heap_dn ?_ | refine heap_d ?_ | refine heap_old ?_)))) hf
  have HF1 : Hid (Fr w v1) := Fr.trans (by (repeat' (first | exact Below.refl _ _ | refine below_drewN ?_ _ | refine Below.drew ?_ | refine frA ?_ _))) hf
  have hp1 := HP1.out
  (obtain ⟨x0, x1⟩ := box2_ hp1)
  have hwl := (Array.getElem?_eq_some_iff.1 hp1).1
  clear hf hp1
  go_upto_region 6 with fail
  go_cut [7] (fun s7 wx => ∃ g : Nat, s7 = .pointer (some ⟨g, 0, none⟩) ∧ Hid (wx.heap[g]? = some (.cells #[.int .i64 b, .int .i64 K, .slice none 0 0] 24 (0, 0))) ∧ Hid (v1.heap.size ≤ g) ∧ Hid (Fr v1 wx))
  case first =>
    have HB : Hid (v1.drew.heap[w.heap.size]? = some (.cells #[.int .i64 B, .int .i64 K] 47 (0, 0))) := HP1.out
    have HG : Hid (Fr v1 v1.drew) := (Below.refl _ _).drew
    go_region_held3 (fun w' => w'.cell? ⟨w.heap.size, 0, none⟩ = some (.int .i64 B) ∧ w'.cell? ⟨w.heap.size, 1, none⟩ = some (.int .i64 K)) (first | exact box2_ HB.out | exact box2_ (heap_old HB.out) | exact ⟨(set3_far NE).trans (cell_of_heap HB.out), (set3_far NE).trans (cell_of_heap HB.out)⟩ | go_keep)
      (first
        | (go_at_call 82; (with_reducible refine (CB.out v1.drew).mono ?_); rintro e w6 ⟨rfl, hf5⟩; have HB := Lib.hid (blk_go HB.out hf5); have HG := Lib.hid (HG.out.trans hf5); clear hf5)
        | (go_at_call 82; (with_reducible refine (CB.out (v1.alloc (.cells #[.int .i64 0, .int .i64 0, .slice none 0 0] 24)).drew).mono ?_); rintro e w6 ⟨rfl, hf5⟩; have HGZ := Lib.hid (blk_go (heap_d (w := v1.alloc (.cells #[.int .i64 0, .int .i64 0, .slice none 0 0] 24)) (heap_new (b := v1.heap.size) rfl)) hf5); have HB := Lib.hid (blk_go (heap_d (w := v1.alloc (.cells #[.int .i64 0, .int .i64 0, .slice none 0 0] 24)) (heap_old HP1.out)) hf5); have HG := Lib.hid (Fr.trans (frAlloc v1 (.cells #[.int .i64 0, .int .i64 0, .slice none 0 0] 24)).drew hf5); obtain ⟨gz, hgz⟩ : ∃ gz, gz = v1.heap.size := ⟨_, rfl⟩; have HGE : Hid (v1.heap.size ≤ gz) := Nat.le_of_eq hgz.symm; rw [← hgz] at HGZ; rw [← hgz]; have y0 := cell_of_heap (i := 0) HGZ.out; have y1 := cell_of_heap (i := 1) HGZ.out; have y2 := cell_of_heap (i := 2) HGZ.out; have f0 := blk_free (i := 0) HGZ.out; have f1 := blk_free (i := 1) HGZ.out; have f2 := blk_free (i := 2) HGZ.out; have hgl := (Array.getElem?_eq_some_iff.1 HGZ.out).1; have NE : gz ≠ w.heap.size := Nat.ne_of_gt (Nat.lt_of_lt_of_le hwl HGE.out); clear hf5 hgz)
        | fail)
    all_goals first
      | (have hst : Hid ((((w6.setCell ⟨gz, 0, none⟩ (.int .i64 b)).setCell ⟨gz, 1, none⟩ (.int .i64 K)).setCell ⟨gz, 2, none⟩ (.slice none 0 0)).heap[gz]? = some (.cells #[.int .i64 b, .int .i64 K, .slice none 0 0] 24 (0, 0))) := stor3_ HGZ.out
         have hfr : Hid (Fr v1 (((w6.setCell ⟨gz, 0, none⟩ (.int .i64 b)).setCell ⟨gz, 1, none⟩ (.int .i64 K)).setCell ⟨gz, 2, none⟩ (.slice none 0 0))) := bel3_ HG.out HGE.out
         go_wp2_with fail
         go_meet
         exact ⟨gz, rfl, hst, HGE, hfr⟩)
      | (have hge : Hid (v1.heap.size ≤ w6.heap.size) := HG.out.size
         have hfr : Hid (Fr v1 (w6.alloc (.cells #[.int .i64 b, .int .i64 K, .slice none 0 0] 24))) := HG.out.trans (frAlloc _ _)
         go_wp2_with fail
         go_meet
         exact ⟨_, rfl, heap_new rfl, hge, hfr⟩)
  case rest =>
    obtain ⟨p7, rfl, HB2, HG2, HF2⟩ := hcut
    obtain ⟨W2, rfl⟩ : ∃ W2, W2 = wc := ⟨_, rfl⟩
    have HWP : Hid (w.heap.size < p7) := Nat.lt_of_lt_of_le hwl HG2.out
    have HP2 := Lib.hid (blk_go HP1.out HF2.out)
    have HFW : Hid (Fr w W2) := HF1.out.trans HF2.out
    have hwp := HWP.out
    clear HP1 x0 x1
    go_wp2_with fail
    go_loopw [34] (fun s34 wr => ∃ (i : Nat) (rows : List Rw) (A9 : Option Addr) (n9 c9 : Nat), i ≤ n ∧ s34 = .int .i64 i ∧ Hid (wr.heap[p7]? = some (.cells #[.int .i64 b, .int .i64 K, .slice A9 n9 c9] 24 (0, 0))) ∧ (n9 ≤ 24 ∧ n9 ≤ c9 ∧ c9 ≤ maxLen) ∧ Hid (Sl 2 eRw wr (LT wr.heap.size) A9 n9 rows) ∧ Hid (Sys b K rows) ∧ Hid (decRows b B K [] xs = decRows b B K rows (xs.drop i)) ∧ Hid (Fr w wr) ∧ Hid (wr.heap[w.heap.size]? = some (.cells #[.int .i64 B, .int .i64 K] 47 (0, 0)))) (fun i _ => n - (intOf i).toNat)
    case atStart => exact ⟨0, [], none, 0, 0, Nat.zero_le _, rfl, HB2, ⟨by omega, by omega, by unfold maxLen; omega⟩, Sl.nil, (made_nil b K).sys, rfl, HFW, HP2⟩
    case round =>
      obtain ⟨i, rows, A9, n9, c9, hi, rfl, HB, ⟨hn9, hc9, hm9⟩, HR, HS, HD, HF, HP⟩ := hrel
      have hpw := HP.out
      (obtain ⟨x0, x1⟩ := box2_ hpw)
      have hbw := HB.out
      (obtain ⟨y0, y1, y2⟩ := box3_ hbw)
      have hwr7 := (Array.getElem?_eq_some_iff.1 hbw).1
      have hwr0 := (Array.getElem?_eq_some_iff.1 hpw).1
      clear hpw hbw
      by_cases hlt : i < n
      · obtain ⟨ad, rfl, hE⟩ := (H.out.go sSm HF.out).els (by omega)
        obtain ⟨x, hx, hrx⟩ := hE.row hlt
        obtain ⟨A3, n3, c3, ⟨m0, m1⟩, wx, ⟨k1, k2, k3⟩, hby⟩ := eSm_iff.1 hrx
        have m0 : wr.cell? (ad.add (i * 2)) = some (.int .i64 x.id) := by simpa [Addr.add] using m0
        have m1 : wr.cell? ⟨(ad.add (i * 2)).block, (ad.add (i * 2)).off + 1, none⟩ = some (.slice A3 n3 c3) := by simpa [Addr.add] using m1
        have HDX : Hid (decRows b B K [] xs = decRows b B K rows (x :: xs.drop (i + 1))) := by rw [Hid, HD.out, drop_cons hx]
        have hdl := hby.1
        obtain ⟨q, hq⟩ : ∃ q, q = wr.heap.size := ⟨_, rfl⟩
        obtain ⟨W4, hW4⟩ : ∃ W4, W4 = wr.alloc (.cells #[.int .i64 x.id, .slice A3 n3 c3] 53) := ⟨_, rfl⟩
        have HX4 : Hid (W4.heap[q]? = some (.cells #[.int .i64 x.id, .slice A3 n3 c3] 53 (0, 0))) := by rw [hW4]; exact heap_new hq
        have HB4 : Hid (W4.heap[p7]? = some (.cells #[.int .i64 b, .int .i64 K, .slice A9 n9 c9] 24 (0, 0))) := by rw [hW4]; exact heap_old HB.out
        have HP4 : Hid (W4.heap[w.heap.size]? = some (.cells #[.int .i64 B, .int .i64 K] 47 (0, 0))) := by rw [hW4]; exact heap_old HP.out
        have HF4 : Hid (Fr wr W4) := by rw [hW4]; exact frAlloc _ _
        have HQ := Lib.hid hq
        have HW4 := Lib.hid hW4
        obtain ⟨ck, hck⟩ : ∃ ck, ck = codeCheck B K x.id n3 := ⟨_, rfl⟩
        have CC := Lib.hid (fun W A c => refCheckSym_any W B K x.id A n3 c wB wK)
        rw [← hck] at CC
        have HCK2 : Hid (codeCheck B K x.id x.data.length = ck) := by rw [Hid, hdl, hck]
        have HBY := Lib.hid hby
        (have Hdl := Lib.hid hdl; clear hdl; have Hck := Lib.hid hck; clear hck)
        have hk23 : n3 ≤ c3 ∧ c3 ≤ maxLen := ⟨k2, k3⟩
        clear hrx hE hx k1 k2 k3 hby hq hW4 wx HD
        go_wp2_with fail
        rw [← HW4.out, ← HQ.out]
        clear x0 x1 y0 y1 y2 m0 m1 HW4
        (with_reducible refine (CC.out _ _ _).mono ?_)
        rintro e v5 ⟨rfl, hf⟩
        have HX5 := Lib.hid (blk_go HX4.out hf)
        have HB5 := Lib.hid (blk_go HB4.out hf)
        have HP5 := Lib.hid (blk_go HP4.out hf)
        have HF5 : Hid (Fr wr v5) := HF4.out.trans hf
        clear hf HX4 HB4 HP4 HF4 CC
        by_cases hc0 : ck = 0
        · have e1 : (ck != 0) = false := by simp [hc0]
          have hcc := codeCheck_ok (HCK2.out.trans hc0)
          obtain ⟨hid1, hid2⟩ := hcc.2.1
          have hfx : Fit b K (symRow b x) := ⟨length_pickHas _ _, by have := hcc.2.2; show x.data.length = K; omega⟩
          have HD2 : Hid (decRows b B K [] xs = if (sysAdd ⟨b, K, rows⟩ (symRow b x)).2.2 ≠ 0 then ([], (sysAdd ⟨b, K, rows⟩ (symRow b x)).2.2) else decRows b B K (sysAdd ⟨b, K, rows⟩ (symRow b x)).1.rows (xs.drop (i + 1))) := by
            rw [Hid, HDX.out, decRows, if_neg (by rw [HCK2.out, hc0]; simp)]
          obtain ⟨b', k', rows', mo, er, hadd⟩ : ∃ b' k' rows' mo er, sysAdd ⟨b, K, rows⟩ (symRow b x) = (⟨b', k', rows'⟩, mo, er) := ⟨_, _, _, _, _, rfl⟩
          have EA := Lib.hid hadd
          rw [hadd] at HD2
          have HS' : Hid (er = 0 → b' = (b : Int) ∧ k' = (K : Int) ∧ Sys b K rows') := fun h0 => by
            obtain ⟨b2, k2, e2, e3, _, _, _, hs2, _, e4, e5, hcase⟩ := sysAdd_ok0 (B := (b : Int)) (K := (K : Int)) (rows := rows) (r := symRow b x) (by rw [hadd]; exact h0)
            rw [hadd] at e4 e5 hcase
            simp only [] at e4 e5 hcase
            obtain rfl : b2 = b := by omega
            obtain rfl : k2 = K := by omega
            refine ⟨e4, e5, ?_⟩
            rcases hcase with ⟨rfl, _⟩ | ⟨_, rfl, _, _, hs3, _⟩
            · exact hs2
            · exact hs3
          have CP : Hid (∀ W, Calls Try.prog 30 #[.int .i64 x.id, .int .i64 b] W fun e w' => ∃ A n c, e = .returned (.tuple #[.slice A n c, .int .i64 0]) ∧ (n ≤ c ∧ c ≤ maxLen) ∧ Sl 1 eInt w' (LT w'.heap.size) A n (selIdx (pickHas x.id.toNat b)) ∧ Fr W w') := fun W => by
            have := refPicked_any W x.id b
            have EPK : pickedR x.id b = (selIdx (pickHas x.id.toNat b), 0) := by unfold pickedR; rw [if_pos ⟨hid1, hid2, by omega, by omega⟩, Int.toNat_natCast]
            rw [EPK] at this; exact this
          have hx5 := HX5.out
          (obtain ⟨z0, z1⟩ := box2_ hx5)
          have hb5 := HB5.out
          (obtain ⟨y0, y1, y2⟩ := box3_ hb5)
          have hl7 := (Array.getElem?_eq_some_iff.1 hb5).1
          have hlq := (Array.getElem?_eq_some_iff.1 hx5).1
          clear hx5 hb5 hc0 hcc hfx hadd HDX HCK2
          go_upto_region 13 with fail
          go_cut [11] (fun s11 wx => ∃ g u : Nat, s11 = .pointer (some ⟨g, 0, none⟩) ∧ Hid (wx.heap[g]? = some (.cells #[.slice (some ⟨u, 0, none⟩) b b, .slice A3 n3 c3] 29 (0, 0))) ∧ Hid (wx.heap[u]? = some (.cells (ca Value.bool (List.replicate b false)) 4 (0, 0))) ∧ Hid (v5.heap.size ≤ g ∧ v5.heap.size ≤ u ∧ g ≠ u) ∧ Hid (Fr v5 wx))
          case first =>
            go_region_held3 (fun w' => w'.cell? ⟨q, 0, none⟩ = some (.int .i64 x.id) ∧ w'.cell? ⟨q, 1, none⟩ = some (.slice A3 n3 c3) ∧ w'.cell? ⟨p7, 0, none⟩ = some (.int .i64 b)) (first | exact ⟨z0, z1, y0⟩ | go_keep) (fail)
            all_goals
              go_wp2_with fail
              go_meet
              first
                | exact ⟨v5.heap.size + 1, v5.heap.size, rfl, heap_d (heap_new (by simp)), heap_d (heap_old (heap_new rfl)), ⟨Nat.le_succ _, Nat.le_refl _, Nat.succ_ne_self _⟩, ((frAlloc _ _).trans (frAlloc _ _)).drew⟩
                | exact ⟨v5.heap.size, v5.heap.size + 1, rfl, heap_d (heap_old (heap_new rfl)), heap_d (heap_new (by simp)), ⟨Nat.le_refl _, Nat.le_succ _, (Nat.succ_ne_self _).symm⟩, ((frAlloc _ _).trans (frAlloc _ _)).drew⟩
          case rest =>
            obtain ⟨g, u, rfl, HRG, HUU, ⟨hg5, hu5, hgu⟩, HF56⟩ := hcut
            obtain ⟨v6, rfl⟩ : ∃ v6, v6 = wc := ⟨_, rfl⟩
            have HX6 := Lib.hid (blk_go HX5.out HF56.out)
            have HB6 := Lib.hid (blk_go HB5.out HF56.out)
            have HP6 := Lib.hid (blk_go HP5.out HF56.out)
            have HF6 : Hid (Fr wr v6) := HF5.out.trans HF56.out
            have hx6 := HX6.out
            (obtain ⟨z0, z1⟩ := box2_ hx6)
            have hb6 := HB6.out
            (obtain ⟨y0, y1, y2⟩ := box3_ hb6)
            have hz5 := HF5.out.size
            clear hx6 hb6 HX5 HB5 HP5 HF5 HF56 hlq hl7
            go_wp2_with fail
            (with_reducible refine (CP.out _).mono ?_)
            rintro e v7 ⟨A6, n6, c6, rfl, ⟨hnc6, hcm6⟩, hs6, hf⟩
            have hn6 : n6 ≤ 9223372036854775807 := by unfold maxLen at hcm6; omega
            have HF7 : Hid (Fr wr v7) := HF6.out.trans hf
            have HX7 := Lib.hid (blk_go HX6.out hf)
            have HB7 := Lib.hid (blk_go HB6.out hf)
            have HP7 := Lib.hid (blk_go HP6.out hf)
            have HR7 := Lib.hid (blk_go HRG.out hf)
            have HU7 := Lib.hid (blk_go HUU.out hf)
            have hr7 := HR7.out
            (obtain ⟨t0, t1⟩ := box2_ hr7)
            have hz6 := HF6.out.size
            have hz7 := HF7.out.size
            have lg := (Array.getElem?_eq_some_iff.1 HR7.out).1
            have lu := (Array.getElem?_eq_some_iff.1 HU7.out).1
            obtain ⟨L, hL⟩ : ∃ L, L = selIdx (pickHas x.id.toNat b) := ⟨_, rfl⟩
            rw [← hL] at hs6
            have HLB : Hid (∀ k ∈ L, ∃ a : Nat, k = (a : Int) ∧ a < b) := fun k hk => by
              rw [hL] at hk
              obtain ⟨a, e, ha⟩ := (Sel.idx (pickHas x.id.toNat b)).bd k hk
              exact ⟨a, e, by rw [length_pickHas] at ha; exact ha⟩
            have HSET : Hid (setAll (List.replicate b false) L = pickHas x.id.toNat b) := by
              have := setAll_idx (pickHas x.id.toNat b)
              rw [length_pickHas] at this
              rw [Hid, hL]; exact this
            have HL6 : Hid (L.length = n6) := hs6.1
            have HSU : Hid (Sl 1 eInt v7 (fun y => y < v7.heap.size ∧ y ≠ u) A6 n6 L) := (show Sl 1 eInt v7 (LT v7.heap.size) A6 n6 L from hs6).notInts HU7.out boolsNoI
            clear hf hs6 hr7 hL CP HX6 HB6 HP6 HRG HUU y0 y1 y2
            obtain ⟨wo, rfl⟩ : ∃ wo : World, wo = wr := ⟨_, rfl⟩
            go_wp2_with fail
            go_loopw [60] (fun s60 wy => ∃ (j : Nat) (U : List Bool), j ≤ n6 ∧ s60 = .int .i64 j ∧ U.length = b ∧ Hid (setAll U (L.drop j) = pickHas x.id.toNat b) ∧ Hid (wy.heap[u]? = some (.cells (ca Value.bool U) 4 (0, 0))) ∧ Hid (Chg (fun y => y = u) v7 wy)) (fun j _ => n6 - (intOf j).toNat)
            case atStart => exact ⟨0, _, Nat.zero_le _, rfl, List.length_replicate, HSET, HU7, Chg.refl _ _⟩
            case round =>
              obtain ⟨j, U, hj, rfl, hUl, HSJ, HUJ, HCJ⟩ := hrel
              obtain ⟨wy, rfl⟩ : ∃ wy : World, wy = wr := ⟨_, rfl⟩
              have hRy := HCJ.out.blk HR7.out hgu
              have hsy := HCJ.out.size
              (obtain ⟨t0, t1⟩ := box2_ hRy)
              by_cases hlt6 : j < n6
              · obtain ⟨adL, rfl, hEL⟩ := (HSU.out.keep (w' := wy) sInt fun p hp => HCJ.out.cell (p := p) hp.1 hp.2).els (by omega)
                obtain ⟨k, hk, hck, _⟩ := hEL.int hlt6
                obtain ⟨r, rfl, hr⟩ := HLB.out k (List.mem_of_getElem? hk)
                have hSJ : Hid (setAll (U.set r true) (L.drop (j + 1)) = pickHas x.id.toNat b) := by
                  have := HSJ.out
                  rw [drop_cons hk, setAll, Int.toNat_natCast] at this
                  exact this
                obtain ⟨ub, hub⟩ : ∃ ub, U[r]? = some ub := ⟨U[r]'(by rw [hUl]; exact hr), List.getElem?_eq_getElem _⟩
                have hcu : wy.cell? ⟨u, r, none⟩ = some (.bool ub) := ca_cell HUJ.out hub
                have hfu : wy.frozen? ⟨u, r, none⟩ = false := ca_free HUJ.out
                have HUJ' : Hid ((wy.setCell ⟨u, r, none⟩ (.bool true)).heap[u]? = some (.cells (ca Value.bool (U.set r true)) 4 (0, 0))) := ca_set HUJ.out
                have HCJ' : Hid (Chg (fun y => y = u) v7 (wy.setCell ⟨u, r, none⟩ (.bool true))) := HCJ.out.trans (Chg.set (S := fun y => y = u) (p := ⟨u, r, none⟩) (Chg.refl _ _) rfl _)
                have hUl' : (U.set r true).length = b := by rw [List.length_set]; exact hUl
                clear hRy hEL hk hub HSJ
                go_wp2_with fail
                go_roundw
                case rel => exact ⟨j + 1, _, by omega, by go_num, hUl', hSJ, HUJ', HCJ'⟩
                case measure => simp [intOf]; omega
              · obtain rfl : j = n6 := by omega
                have HUE : Hid (U = pickHas x.id.toNat b) := by
                  have h1 := HSJ.out
                  have h2 := HL6.out
                  rw [List.drop_eq_nil_of_le (Nat.le_of_eq h2)] at h1
                  exact h1
                have HFy : Hid (Fr wo wy) := HCJ.out.fr HF7.out fun y hy => by rw [hy]; omega
                have HAS : Hid (Sl 1 eBool wy (LT wy.heap.size) (some ⟨u, 0, none⟩) b (symRow b x).has) := ca_bools (by rw [HUJ.out, HUE.out]; rfl) (ca_lt HUJ.out) (length_pickHas _ _)
                have hBy := HCJ.out.blk HB7.out (by omega)
                have hPy := HCJ.out.blk HP7.out (by omega)
                (obtain ⟨y0, y1, y2⟩ := box3_ hBy)
                have HBy := Lib.hid hBy
                have HPy := Lib.hid hPy
                have hck8 : Hid (sysCheck (b : Int) K rows = 0) := sysCheck_of (by omega) ⟨K1, K2⟩ HS.out
                have CA : Hid (Calls Try.prog 22 #[.agg #[.int .i64 b, .int .i64 K, .slice A9 n9 c9], .agg #[.slice (some ⟨u, 0, none⟩) b b, .slice A3 n3 c3]] wy (RAddPost wy (⟨b', k', rows'⟩, mo, er))) := by
                  have := refAdd_any wy b K A9 n9 c9 rows (HR.out.go sRw HFy.out) hck8.out (symRow b x) (some ⟨u, 0, none⟩) A3 b b n3 c3 HAS.out (HBY.out.go sByte HFy.out) ⟨Nat.le_refl _, by unfold maxLen; omega⟩ hk23
                  rw [EA.out] at this
                  exact this
                clear hRy hBy hPy HUJ HSJ
                go_wp2_with fail
                (with_reducible refine (CA.out).mono ?_)
                rintro e v8 ⟨A10, n10, c10, rfl, ⟨hn10, hc10, hm10⟩, hs10, hf⟩
                obtain ⟨q16, hq16⟩ : ∃ q16, q16 = v8.heap.size := ⟨_, rfl⟩
                obtain ⟨V8, hV8⟩ : ∃ V8, V8 = v8.alloc (.cells #[.int .i64 b', .int .i64 k', .slice A10 n10 c10] 24) := ⟨_, rfl⟩
                have HF8 : Hid (Fr wy V8) := by rw [hV8]; exact hf.trans (frAlloc _ _)
                have HQ16 : Hid (V8.heap[q16]? = some (.cells #[.int .i64 b', .int .i64 k', .slice A10 n10 c10] 24 (0, 0))) := by rw [hV8]; exact heap_new hq16
                have HR8 : Hid (Sl 2 eRw V8 (LT V8.heap.size) A10 n10 rows') := by
                  have h1 : Fr v8 V8 := by rw [hV8]; exact frAlloc _ _
                  exact hs10.go sRw h1
                have HV8 := Lib.hid hV8
                have HQE := Lib.hid hq16
                have HB8 := Lib.hid (blk_go HBy.out HF8.out)
                have HP8 := Lib.hid (blk_go HPy.out HF8.out)
                clear hf hs10 hV8 hq16 y0 y1 y2 t0 t1
                by_cases he0 : er = 0
                · subst he0
                  obtain ⟨rfl, rfl, hsys⟩ := HS'.out rfl
                  have HD3 : Hid (decRows b B K [] xs = decRows b B K rows' (xs.drop (i + 1))) := by rw [Hid, HD2.out, if_neg (by simp)]
                  have hn10' : n10 ≤ 24 := by
                    have h1 := (sysCheck_ok (sysCheck_of (rows := rows') ⟨b1, b2⟩ ⟨K1, K2⟩ hsys)).2.2.1
                    have h2 := HR8.out.1
                    omega
                  have hb8 := HB8.out
                  have hq8 := HQ16.out
                  (obtain ⟨y0, y1, y2⟩ := box3_ hb8)
                  (obtain ⟨z0, z1, z2⟩ := box3_ hq8)
                  have yf0 := blk_free (i := 0) hb8
                  have yf1 := blk_free (i := 1) hb8
                  have yf2 := blk_free (i := 2) hb8
                  have hbl8 := (Array.getElem?_eq_some_iff.1 hb8).1
                  have hql8 := (Array.getElem?_eq_some_iff.1 hq8).1
                  obtain ⟨W9, hW9⟩ : ∃ W9, W9 = (((V8.setCell ⟨p7, 0, none⟩ (.int .i64 b)).setCell ⟨p7, 1, none⟩ (.int .i64 K)).setCell ⟨p7, 2, none⟩ (.slice A10 n10 c10)) := ⟨_, rfl⟩
                  have HB9 : Hid (W9.heap[p7]? = some (.cells #[.int .i64 b, .int .i64 K, .slice A10 n10 c10] 24 (0, 0))) := by rw [hW9]; exact stor3_ hb8
                  have hC9 : Chg (fun x => x = p7) V8 W9 := by rw [hW9]; exact Chg.of (grw3_ ⟨rfl, rfl, rfl, Nat.le_refl _, fun _ _ _ => rfl⟩)
                  have HP9 : Hid (W9.heap[w.heap.size]? = some (.cells #[.int .i64 B, .int .i64 K] 47 (0, 0))) := hC9.blk HP8.out (by omega)
                  have HR9 : Hid (Sl 2 eRw W9 (LT W9.heap.size) A10 n10 rows') := by
                    have q1 := HR8.out.notSys hb8 (fun x e => by cases e) (fun x e => by cases e)
                    have q2 := q1.chg sRw hC9 fun bb hb => ⟨hb.1, hb.2⟩
                    exact q2.more sRw fun bb hb => Nat.lt_of_lt_of_le hb.1 hC9.size
                  have HF9 : Hid (Fr w W9) := hC9.fr ((HF.out.trans HFy.out).trans HF8.out) fun bb hb => by rw [hb]; omega
                  have HSY := Lib.hid hsys
                  rw [hW9] at HB9 HP9 HR9 HF9
                  clear hb8 hq8 hC9 hW9 HB8 HP8 HR8 HF8 hsys HS' HD2 EA HUE HAS HCJ
                  rw [HQE.out] at z0 z1 z2
                  rw [HV8.out] at y0 y1 y2 z0 z1 z2 yf0 yf1 yf2 hbl8 hql8 HB9 HP9 HR9 HF9
                  clear HV8 HQE HQ16
                  go_wp2_with fail
                  go_roundw
                  case rel => exact ⟨i + 1, rows', A10, n10, c10, by omega, by go_num, HB9, ⟨hn10', hc10, hm10⟩, HR9, HSY, HD3, HF9, HP9⟩
                  case measure => simp [intOf]; omega
                · have e2 : (er != 0) = true := by simp [he0]
                  have ED : Hid (decodeF B K xs = ([], er)) := by
                    rw [Hid, D0.out, HD2.out, if_pos he0]
                    exact if_pos he0
                  clear he0 HS' HD2 EA
                  go_wp2_with fail
                  rw [← HV8.out]
                  go_ret2
                  exact decPost_err ED.out ((HF.out.trans HFy.out).trans HF8.out)
        · have e1 : (ck != 0) = true := by simp [hc0]
          have ED : Hid (decodeF B K xs = ([], ck)) := by
            rw [Hid, D0.out, HDX.out, decRows, HCK2.out, if_pos hc0]
            exact if_pos hc0
          clear hc0 HDX HCK2
          go_wp2_with fail
          go_ret2
          exact decPost_err ED.out (HF.out.trans HF5.out)
      · obtain rfl : i = n := by omega
        have hde : xs.drop i = [] := List.drop_eq_nil_of_le (by rw [HL.out]; exact Nat.le_refl _)
        have HD2 : Hid (decRows b B K [] xs = (rows, 0)) := by rw [Hid, HD.out, hde]; rfl
        have hrl : rows.length = n9 := HR.out.1
        have D1 : Hid (decodeF B K xs = if n9 < b then ([], 8) else joinUp B K (knownF b rows)) := by
          rw [Hid, D0.out, HD2.out, if_neg (by simp), hrl]
        have hck8 : Hid (sysCheck (b : Int) K rows = 0) := sysCheck_of (by omega) ⟨K1, K2⟩ HS.out
        have HLN : Hid (lens (knownF b rows) ≤ lim) := lens_known HS.out K2 b2
        have HKE : Hid ((sysKnown ⟨(b : Int), (K : Int), rows⟩).1 = knownF b rows) := by
          rw [Hid]; unfold sysKnown
          rw [if_neg (by simp only []; rw [hck8.out]; simp)]
          simp
        clear hde hrl HD HD2 D0
        by_cases hfull : n9 < b
        · have ED : Hid (decodeF B K xs = ([], 8)) := by rw [Hid, D1.out, if_pos hfull]
          go_wp2_with fail
          go_ret2
          exact decPost_err ED.out HF.out
        · have ED : Hid (decodeF B K xs = joinUp B K (knownF b rows)) := by rw [Hid, D1.out, if_neg hfull]
          go_wp2_with fail
          have hwv := HP.out
          have hbv := HB.out
          have HPV : Hid (wr.drew.heap[w.heap.size]? = some (.cells #[.int .i64 B, .int .i64 K] 47 (0, 0))) := hwv
          have HBV : Hid (wr.drew.heap[p7]? = some (.cells #[.int .i64 b, .int .i64 K, .slice A9 n9 c9] 24 (0, 0))) := hbv
          clear hwv hbv
          go_region_held3 (fun w' => (w'.cell? ⟨w.heap.size, 0, none⟩ = some (.int .i64 B) ∧ w'.cell? ⟨w.heap.size, 1, none⟩ = some (.int .i64 K)) ∧ w'.cell? ⟨p7, 0, none⟩ = some (.int .i64 b) ∧ w'.cell? ⟨p7, 1, none⟩ = some (.int .i64 K) ∧ w'.cell? ⟨p7, 2, none⟩ = some (.slice A9 n9 c9)) (first | exact ⟨box2_ HPV.out, box3_ HBV.out⟩ | go_keep)
            (first
              | (go_at_call 24; (with_reducible refine (refKnown_any _ _ _ _ _ _ rows (HR.out.go sRw (Below.refl _ _).drew) hck8.out).mono ?_); rintro e v9 ⟨g1, m1, rfl, hk1, hf⟩; rw [HKE.out] at hk1; have HF9 := Lib.hid (HF.out.trans (Fr.trans (Below.refl _ _).drew hf)); have HK1 := Lib.hid hk1; have HPV := Lib.hid (blk_go HPV.out hf); have HBV := Lib.hid (blk_go HBV.out hf); clear hf hk1)
              | (go_at_call 86; (with_reducible refine (refJoined_any _ _ _ _ _ _ (knownF b rows) HK1.out HLN.out wB wK).mono ?_); rintro e v10 ⟨A11, n11, c11, rfl, hn11, hc11, hm11, hs11, hf⟩; have HF10 := Lib.hid (HF9.out.trans hf); have HS11 := Lib.hid hs11; have HPV := Lib.hid (blk_go HPV.out hf); have HBV := Lib.hid (blk_go HBV.out hf); clear hf hs11)
              | fail)
          all_goals
            go_wp2_with fail
            go_ret2
            rw [ED.out]
            exact ⟨A11, n11, c11, rfl, ⟨hn11, hc11, hm11⟩, HS11.out, HF10.out⟩

set_option maxRecDepth 100000 in
set_option maxHeartbeats 1000000 in
theorem refDec_any (w : World) (B K : Int) (wB : wfI B) (wK : wfI K) (A : Option Addr) (n c : Nat) (xs : List Sm) (h : Sl 2 eSm w (LT w.heap.size) A n xs) (hnm : n ≤ maxLen) :
    Calls Try.prog 52 #[.agg #[.int .i64 B, .int .i64 K], .slice A n c] w (DecPost w (decodeF B K xs)) := by
  by_cases hck : cutCheck B K = 0
  · obtain ⟨c1, c2, c3, c4, _⟩ := cutCheck_ok hck
    by_cases hn : n ≤ 60
    · obtain ⟨k, rfl⟩ := Int.eq_ofNat_of_zero_le (show 0 ≤ K by omega)
      obtain ⟨b, hb⟩ := Int.eq_ofNat_of_zero_le (show 0 ≤ blocksOf B k by omega)
      exact refDec_good w B k b A n c xs h hn hck hb
    · have ED : Hid (decodeF B K xs = ([], 2)) := by
        unfold decodeF Hid
        rw [if_neg (by simp [hck]), if_pos (by rw [h.1]; omega)]
      have hn1 : decide ((60 : Int) < (n : Int)) = true := by simp; omega
      have hn2 : decide (60 < n) = true := by simp; omega
      have HC := Lib.hid hck
      unfold maxLen at hnm
      clear h hck c1 c2 c3 c4 hn
      go_enter Try.func52, Try.ntmps52
      go_wp2_with fail
      (with_reducible refine (refCheckPlan_any _ _ _ wB wK).mono ?_)
      rw [HC.out]
      rintro e v1 ⟨rfl, hf⟩
      have HF1 : Hid (Fr w v1) := Fr.trans (by (repeat' (first | exact Below.refl _ _ | refine below_drewN ?_ _ | refine Below.drew ?_ | refine frA ?_ _))) hf
      clear hf
      go_wp2_with fail
      go_ret2
      exact decPost_err ED.out HF1.out
  · obtain ⟨ck, hk⟩ : ∃ ck, ck = cutCheck B K := ⟨_, rfl⟩
    have ED : Hid (decodeF B K xs = ([], ck)) := by
      unfold decodeF Hid
      rw [if_pos hck, hk]
    have e1 : (ck != 0) = true := by rw [hk, bne_iff_ne]; exact hck
    (have Hk := Lib.hid hk; clear hk)
    clear h hck
    go_enter Try.func52, Try.ntmps52
    go_wp2_with fail
    (with_reducible refine (refCheckPlan_any _ _ _ wB wK).mono ?_)
    rw [← Hk.out]
    rintro e v1 ⟨rfl, hf⟩
    have HF1 : Hid (Fr w v1) := Fr.trans (by (repeat' (first | exact Below.refl _ _ | refine below_drewN ?_ _ | refine Below.drew ?_ | refine frA ?_ _))) hf
    clear hf
    go_wp2_with fail
    go_ret2
    exact decPost_err ED.out HF1.out
end Go.Proofs.Ytnfjghldcopaaaa
namespace Go.Proofs.Ytnfjghldcopaaaa
open Go.RowKit
attribute [local irreducible] wpList

set_option maxRecDepth 100000 in
set_option maxHeartbeats 2000000 in
theorem solveDecode_any (w : World) (B K : Int) (wB : wfI B) (wK : wfI K) (A : Option Addr) (n c : Nat) (xs : List Sm) (h : Sl 2 eSm w (LT w.heap.size) A n xs) (hl : n * 32 ≤ lim) (hnc : n ≤ c) (hcm : c ≤ maxLen) :
    Calls Try.prog 13 #[.agg #[.int .i64 B, .int .i64 K], .slice A n c] w fun e w' => e = .returned (.bool true) ∧ Fr w w' := by
  have hnm : n ≤ maxLen := by omega
  obtain ⟨R, hR⟩ : ∃ R, R = decodeF B K xs := ⟨_, rfl⟩
  have CK := Lib.hid (fun (W : World) (hs : Sl 2 eSm W (LT W.heap.size) A n xs) => decode_any W B K wB wK A n c xs hs hnm)
  have CR := Lib.hid (fun (W : World) (hs : Sl 2 eSm W (LT W.heap.size) A n xs) => refDec_any W B K wB wK A n c xs hs hnm)
  rw [← hR] at CK CR
  clear hR
  (have H := Lib.hid h; clear h)
  go_enter Try.func13, Try.ntmps13
  go_wp2_with fail
  (with_reducible refine (CK.out _ (H.out.go sSm (by (repeat' (first | exact Below.refl _ _ | refine below_drewN ?_ _ | refine Below.drew ?_ | refine frA ?_ _))))).mono ?_)
  rintro e v1 ⟨A1, n1, c1, rfl, ⟨l1, hnc1, hcm1⟩, hs1, hf⟩
  have HP1 : Hid (v1.heap[w.heap.size]? = some (.cells #[.int .i64 B, .int .i64 K] 47 (0, 0))) := blk_go (by (repeat' (with_reducible (first | (refine heap_new ?_; (first | (simp; done) | rfl); done) | refine heap_dn ?_ | refine heap_d ?_ | refine heap_old ?_)))) hf
  have HF1 : Hid (Fr w v1) := Fr.trans (by (repeat' (first | exact Below.refl _ _ | refine below_drewN ?_ _ | refine Below.drew ?_ | refine frA ?_ _))) hf
  have HS1 := Lib.hid hs1
  have hp1 := HP1.out
  (obtain ⟨x0, x1⟩ := box2_ hp1)
  clear hf hp1 hs1
  go_wp2_with fail
  (with_reducible refine (CR.out _ (H.out.go sSm HF1.out)).mono ?_)
  rintro e v2 ⟨A2, n2, c2, rfl, ⟨l2, hnc2, hcm2⟩, hs2, hf⟩
  have HF2 : Hid (Fr w v2) := HF1.out.trans hf
  have HS1' := Lib.hid (HS1.out.go sByte hf)
  have HS2 := Lib.hid hs2
  obtain ⟨er, her⟩ : ∃ er, er = R.2 := ⟨_, rfl⟩
  rw [← her]
  have e1 : (er == er) = true := by simp
  have hm1 : n1 ≤ maxLen := by omega
  clear hf hs2 her
  go_wp2_with fail
  (with_reducible refine (solved_any _).mono ?_)
  rintro e v3 ⟨rfl, hf3⟩
  have HF3 : Hid (Fr w v3) := HF2.out.trans hf3
  have HS1' := Lib.hid (HS1'.out.go sByte hf3)
  have HS2 := Lib.hid (HS2.out.go sByte hf3)
  clear hf3
  go_wp2_with fail
  (with_reducible refine (equalBytes_any _ _ _ _ _ _ _ _ _ _ _ HS1'.out HS2.out hm1).mono ?_)
  rintro e v4 ⟨rfl, mq, rfl⟩
  have HF4 : Hid (Fr w (v3.drewN mq)) := HF3.out.trans (frDrewN _ _)
  have e2 : (decide (R.1 = R.1)) = true := by simp
  rw [e2]
  go_wp2_with fail
  go_ret
  exact ⟨rfl, HF4.out⟩
end Go.Proofs.Ytnfjghldcopaaaa
namespace Go.Proofs.Ytnfjghldcopaaaa.solveDecodeLaw
open Go.ChangeShapes Go.WideShapes Go.ChangeAt Go.RowKit

set_option maxRecDepth 100000 in
theorem lifted (os : Os) (started : os.Started) (H : Type) (enc : TypeId × Value → H) :
    ReturnsInHanded {} Try.checked os 13 .any (Rows.solveDecodeSpec.pre6 enc Try.prog Try.f13 Rows.solveDecodeRow.domain false) (Rows.solveDecodeSpec.post enc Try.prog Try.f13 false true false false) := by
  refine returnsInHanded_of_change_sized (C := Try.checked) own started (by kernel_rfl) Try.func13
    (ChangeSpec.witness6 (enc := enc) (C := Try.checked) false ⟨#[], #[.agg #[.int .i64 0, .int .i64 0], .slice none 0 0], []⟩ 8 (by kernel_rfl) (by kernel_rfl) (by kernel_rfl) (by kernel_rfl)) ?_
  intro W base args ds gs before hval0 hW hcnd hsz0 _
  have hval : ∀ (j : Nat) t v, Try.f13.params[j]? = some t → args[j]? = some v → Value.okWide Try.prog W .any base t v := hval0
  have hsz : (DataW.weightsEach Try.prog (Try.f13.params.toList ++ Rows.solveDecodeSpec.plain.varTypes Try.prog) (ds ++ gs)).all (· ≤ reachBytes) = true := hsz0
  have hW' := hW
  obtain ⟨p, q, hA0, hV, rfl, hfz, hnd⟩ := hW
  have hA : DataW.TrodAll enc Try.prog W 0 (fun _ => true) true Try.f13.params.toList args.toList ds p := hA0
  rw [Try.params13] at hA hval hsz
  obtain ⟨v0, vs0, d0, ds0, p0, q0, hargs, rfl, rfl, h0, r0⟩ := trodAll_cons hA
  obtain ⟨v1, vs1, d1, ds1, p1, q1, rfl, rfl, rfl, h1, r1⟩ := trodAll_cons r0
  obtain ⟨rfl, rfl, rfl⟩ := trodAll_nil r1
  obtain rfl : args = #[v0, v1] := by cases args; simp_all
  obtain ⟨rfl, rfl⟩ := trodVars_none hV
  have k0 := h0
  have lt0 : ∀ x ∈ p0, x.block < W.heap.size := by obtain ⟨m, hm⟩ := k0; exact DataW.trod_lt m _ _ _ hm
  have s0 : ∀ n ∈ d0.weights Try.prog 47, n ≤ reachBytes := fun n hn => of_decide_eq_true (List.all_eq_true.1 hsz n (DataW.weights_mem_each (j := 0) rfl rfl n hn))
  obtain ⟨B0, K0, rfl, wB0, wK0⟩ := openPlan (hval 0 47 v0 rfl rfl) h0
  have k1 := h1
  have lt1 : ∀ x ∈ p1, x.block < W.heap.size := by obtain ⟨m, hm⟩ := k1; exact DataW.trod_lt m _ _ _ hm
  have s1 : ∀ n ∈ d1.weights Try.prog 50, n ≤ reachBytes := fun n hn => of_decide_eq_true (List.all_eq_true.1 hsz n (DataW.weights_mem_each (j := 1) rfl rfl n hn))
  obtain ⟨A1, n1, c1, rfl⟩ := okWide_slice Try.underlying50 (hval 1 50 v1 rfl rfl)
  obtain ⟨y1, hy1⟩ : ∃ y, (eSl 2 32 eSm) W (LT W.heap.size) (fun j => [Value.slice A1 n1 c1][j]?) y := by obtain ⟨fuel, hf⟩ := h1; exact (openSyms _ _ _ _ _ _ hf s1).2
  obtain ⟨_, _, _, e1, ⟨l1, lc1, lm1⟩, hs1⟩ := hy1; simp at e1; obtain ⟨rfl, rfl, rfl⟩ := e1
  clear hA0 hval0
  refine (solveDecode_any W B0 K0 wB0 wK0 A1 n1 c1 y1 hs1 l1 lc1 lm1).mono fun e W' ⟨he, bel⟩ => ?_
  subst he
  exact ⟨_, rfl, _, _, _, [], _, [], hW', trodAll_mk1 (shut_bool Try.underlying4 _), (trodAll_cons_mk (Below.trod laidOut (by kernel_rfl) (of_decide_eq_true (by kernel_rfl)) k0 bel lt0) (trodAll_cons_mk (Below.trod laidOut (by kernel_rfl) (of_decide_eq_true (by kernel_rfl)) k1 bel lt1) trodAll_mk0)), rfl, bel.frame _, fun h => by cases h⟩

/-- The statement: the law answers true for every input. -/
theorem proved : Rows.SolveDecodeSaid :=
  OpenClaim.holds_of_wide 13 Try.f13 rfl rfl rfl rfl rfl rfl rfl ⟨rfl, rfl, rfl, rfl, rfl⟩ rfl rfl rfl rfl rfl (by kernel_rfl) Try.func13 (by kernel_rfl)
    (of_decide_eq_true (by kernel_rfl)) (by unfold Func.isWrapper; first | (rw [if_pos (by decide +kernel)]; kernel_rfl) | (rw [if_neg (by decide +kernel)]; exact ⟨rfl, rfl⟩))
    (fun os started H enc _ => lifted os started H enc)
#print axioms proved
end Go.Proofs.Ytnfjghldcopaaaa.solveDecodeLaw
