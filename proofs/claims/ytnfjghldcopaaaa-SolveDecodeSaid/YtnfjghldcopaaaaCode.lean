/- Contracts of package code. No condition. -/
import Derived.Test.YtnfjghldcopaaaaCodeP
set_option linter.unusedSimpArgs false
set_option linter.unusedVariables false
namespace Go.Proofs.Ytnfjghldcopaaaa
open Go.RowKit

set_option maxRecDepth 100000 in
set_option maxHeartbeats 2000000 in
theorem codeMake_ok (w : World) (A : Option Addr) (n c K : Nat) (cargo : List UInt8) (id : Int) (h : Sl 1 eByte w (LT w.heap.size) A n cargo) (hnc : n ≤ c) (hcm : c ≤ maxLen) (hck : cutCheck n K = 0) (hid : 0 ≤ id ∧ id ≤ 9999) :
    Calls Try.prog 43 #[.agg #[.int .i64 n, .int .i64 K], .slice A n c, .int .i64 id] w fun e w' => ∃ A' n' c', e = .returned (.tuple #[.agg #[.int .i64 id, .slice A' n' c'], .int .i64 0]) ∧ (1 ≤ n' ∧ n' ≤ 16 ∧ n' ≤ c' ∧ c' ≤ 16) ∧ Sl 1 eByte w' (NW w.heap.size w'.heap.size) A' n' (makeSym n K cargo id).1.2 ∧ Fr w w' := by
  have hl := h.1
  obtain ⟨⟨b1, b2⟩, ⟨b3, b4⟩, _⟩ := cutCheck_ok hck
  have hb : 1 ≤ n ∧ n ≤ 360 ∧ 1 ≤ K ∧ K ≤ 16 := by omega
  obtain ⟨b1, b2, b3, b4⟩ := hb
  obtain ⟨q1, q2, _⟩ := cutF_count hck hl
  obtain ⟨X, hX⟩ : ∃ X, X = cutF K n cargo := ⟨_, rfl⟩
  have E1 : Hid (cutUp n K cargo = (X, 0)) := by rw [hX]; exact cutUp_ok hck hl
  obtain ⟨Y, hY⟩ : ∃ Y, Y = pickHas id.toNat X.length := ⟨_, rfl⟩
  have hYl : Y.length = X.length := by rw [hY]; exact length_pickHas _ _
  have E2 : Hid (pickOf id (X.length : Nat) = (Y, 0)) := by
    rw [Hid, hY]; unfold pickOf
    rw [hX, if_pos (by omega), Int.toNat_natCast]
  have E3 : Hid (sumAdd (sel Y X) = (xorAll K (sel Y X), 0)) := by rw [Hid, hY, hX]; exact sel_add hck hl
  have E4 : Hid ((makeSym n K cargo id).1.2 = xorAll K (sel Y X)) := by rw [Hid, hY, hX, makeSym_ok hck hl hid]
  rw [E4.out]
  rw [← hX] at q1 q2
  obtain ⟨nb, hnb⟩ : ∃ nb, X.length = nb := ⟨_, rfl⟩
  rw [hnb] at q1 q2 hYl E2
  have HNB := Lib.hid hnb
  have HYL := Lib.hid hYl
  clear hX hY hnb hYl hck hl hid
  (have H := Lib.hid h; clear h)
  go_enter Try.func43, Try.ntmps43
  go_wp2_with fail
  refine (cutCut_any _ _ _ _ _ _ cargo (H.out.go sByte (by (repeat' (first | exact Below.refl _ _ | refine below_drewN ?_ _ | refine Below.drew ?_ | refine frA ?_ _ | refine Fr.trans ?_ Hf1.out)))) hnc hcm (wfI.mk (by omega)) (wfI.mk (by omega))).mono ?_
  rw [E1.out]
  rintro e w1 ⟨v, rfl, ho, hf1⟩
  obtain ⟨B1, d1, rfl, ⟨hd1, hd2⟩, hs1⟩ := ho.slC wBlock (by decide)
  rw [HNB.out] at hs1 hd1 ⊢
  have hz := blk_go (heap_new (w := w.alloc (.cells #[.int .i64 n, .int .i64 K] 47)) (o := .cells #[.int .i64 0, .slice none 0 0] 53) rfl) hf1
  simp only [World.size_alloc] at hz
  (have Hz := Lib.hid hz; clear hz)
  (have Hf1 := Lib.hid hf1; clear hf1; have Hs1 := Lib.hid hs1; clear hs1; have Ho := Lib.hid ho; clear ho)
  go_wp2_with fail
  refine (pickOf_any _ _ _).mono ?_
  rw [E2.out]
  rintro e w2 ⟨B2, n2, d2, rfl, hn2, _, hs2, hf2⟩
  obtain rfl : n2 = nb := hs2.1.symm.trans HYL.out
  have hz2 := blk_go Hz.out hf2
  (have Hz2 := Lib.hid hz2; clear hz2; have Hs2 := Lib.hid hs2; clear hs2; have Hf2 := Lib.hid hf2; clear hf2)
  have hs1 := Hs1.out.go wBlock Hf2.out
  (have Hs1 := Lib.hid hs1; clear hs1)
  go_wp2_with fail
  go_loopw [11, 38] (fun v i wr => ∃ k : Nat, k ≤ n2 ∧ i = .int .i64 k ∧ Hid (Own 1 eBlock wr w2.heap.size 27 v (sel (Y.take k) (X.take k))) ∧ Hid (Fr w2 wr)) (fun _ i _ => n2 - (intOf i).toNat)
  case atStart => exact ⟨0, Nat.zero_le _, rfl, Own.nil, Below.refl _ _⟩
  case round =>
    obtain ⟨k, hk, rfl, HO, HF⟩ := hrel
    by_cases hlt : k < n2
    · obtain ⟨adh, rfl, hEh⟩ := Hs2.out.els (by omega)
      obtain ⟨b, hb, hcb⟩ := hEh.bool hlt
      have hcb' : wr.cell? (adh.add k) = some (.bool b) := (HF.out.cell (p := adh.add k) (by rw [block_of_add]; exact hEh.2.1)).trans hcb
      obtain ⟨adx, rfl, hEx⟩ := Hs1.out.els (by omega)
      obtain ⟨A', n', c', l, hl, hcl, hm', hcc, hcm', hs⟩ := hEx.blockC hlt
      have hcw : wr.cell? (adx.add k) = some (.slice A' n' c') := (HF.out.cell (p := adx.add k) (by rw [block_of_add]; exact hEx.2.1)).trans hcl
      have HT : Hid (sel (Y.take (k + 1)) (X.take (k + 1)) = sel (Y.take k) (X.take k) ++ if b then [l] else []) := sel_take hb hl
      have hsl : Hid ((sel (Y.take k) (X.take k)).length ≤ k) := by
        rw [Hid, length_sel (by rw [List.length_take, List.length_take, HYL.out, HNB.out])]
        exact Nat.le_trans (cnt_le _) (by rw [List.length_take]; omega)
      have HSL := Lib.hid hs
      clear hb hcb hl hcl hs
      cases b with
      | false =>
        have HO' : Hid (Own 1 eBlock wr w2.heap.size 27 u11 (sel (Y.take (k + 1)) (X.take (k + 1)))) := by
          have e := HT.out
          rw [Hid, e]; simpa using HO.out
        go_wp2_with fail
        go_roundw
        case rel => exact ⟨k + 1, by omega, by go_num, HO', HF⟩
        case measure => simp [intOf]; omega
      | true =>
        go_wp2_with (at_builtin; refine wpList_apps _ rfl _ _ 35 rfl w2.heap.size 27 (.slice none 0 0) 1 24 Try.underlying35 infoBlock rfl (by decide) wBlock _ (sel (Y.take k) (X.take k)) rfl (HO.out.fr wBlock (frAlloc _ _)) ⟨wr.heap.size, 0, none⟩ 1 1 [.slice A' n' c'] rfl rfl (cell_one_new _ _ _) ?c2 [l] rfl ?c3 ?c4 ?c5 ?c6 ?_)
        case c2 => first | rfl | (intro u hu; simp at hu; subst hu; rfl)
        case c3 =>
          intro i x hx
          obtain rfl : i = 0 := by have := (List.getElem?_eq_some_iff.1 hx).1; simp at this; omega
          obtain rfl : l = x := by simpa using hx
          exact ⟨A', n', c', rfl, ⟨by omega, hcc, hcm'⟩, (HSL.out.beside sByte (frA HF.out (.cells #[.slice A' n' c'] 27)) (HO.out.fr wBlock (frAlloc _ _))).more sByte (fun b hb => by simpa using hb)⟩
        case c4 => have := hsl.out; unfold maxLen; omega
        case c5 => have := hsl.out; unfold lim; omega
        case c6 => have := HF.out.size; simp; omega
        · intro v' w3 hown' hg hge
          have HO' : Hid (Own 1 eBlock w3 w2.heap.size 27 v' (sel (Y.take (k + 1)) (X.take (k + 1)))) := by
            rw [HT.out]; exact hown'
          have HF' : Hid (Fr w2 w3) := (frA HF.out _).grown hg (by have := HF.out.size; simp; omega) hge
          clear hown' hg hge hcw hcb'
          go_wp2_with fail
          go_roundw
          case rel => exact ⟨k + 1, by omega, by go_num, HO', HF'⟩
          case measure => simp [intOf]; omega
    · obtain rfl : k = n2 := by omega
      have HO' : Hid (Own 1 eBlock wr w2.heap.size 27 u11 (sel Y X)) := by
        have := HO.out
        rw [List.take_of_length_le (by rw [HYL.out]; omega), List.take_of_length_le (by rw [HNB.out]; omega)] at this
        exact this
      obtain ⟨Z, hZ⟩ : ∃ Z, Z = sel Y X := ⟨_, rfl⟩
      have hsl : Z.length ≤ k := by
        rw [hZ, length_sel (by rw [HYL.out, HNB.out])]
        exact Nat.le_trans (cnt_le _) (by rw [HYL.out]; omega)
      rw [← hZ] at HO' E3
      obtain ⟨A3, c3, rfl, ⟨hc3, hm3⟩, hs3⟩ := HO'.out.slC wBlock (by decide)
      (have Hs3 := Lib.hid hs3; clear hs3; have HZ := Lib.hid hZ; clear hZ)
      go_wp2_with fail
      refine (sumAdd_nw _ _ _ _ Z Hs3.out (by unfold lim; omega)).mono ?_
      rw [E3.out]
      rintro e w4 ⟨A4, n4, c4, rfl, hn4, hn5, hs4, hf4⟩
      have hz4 := blk_go (blk_go Hz2.out HF.out) hf4
      have z0 := cell_of_heap (i := 0) hz4
      have z1 := cell_of_heap (i := 1) hz4
      have zf0 := blk_free (i := 0) hz4
      have zf1 := blk_free (i := 1) hz4
      obtain ⟨hn4a, hn4b, hn4c⟩ := hn4
      have hn5' : 1 ≤ n4 := hn5 rfl
      clear hn5
      (have Hs4 := Lib.hid hs4; clear hs4; have Hf4 := Lib.hid hf4; clear hf4; have Hz4 := Lib.hid hz4; clear hz4)
      go_wp2_with fail
      refine bodyPost_ret (v := .tuple #[.agg #[.int .i64 id, .slice A4 n4 c4], .int .i64 0]) ?_ rfl ?_
      · simp [results, Try.results43, go_sem, z0, z1]
      · refine ⟨A4, n4, c4, rfl, by omega, ?_, ?_⟩
        · rw [← HZ.out]
          have hlt : w.heap.size + 1 < wr.heap.size := (Array.getElem?_eq_some_iff.1 (blk_go Hz2.out HF.out)).1
          have := ((Hs4.out.stored sByte (p := ⟨w.heap.size + 1, 0, none⟩) hlt (.int .i64 id)).stored sByte (p := ⟨w.heap.size + 1, 1, none⟩) hlt (.slice A4 n4 c4)).more sByte (S' := NW w.heap.size w4.heap.size) (fun _ hb => ⟨by have := hb.1; omega, hb.2⟩)
          simpa [size_setCell] using this
        · have h0 : Fr w w4 := by (repeat' (first | exact Below.refl _ _ | refine below_drewN ?_ _ | refine Below.drew ?_ | refine frA ?_ _ | refine Fr.trans ?_ Hf4.out | refine Fr.trans ?_ HF.out | refine Fr.trans ?_ Hf2.out | refine Fr.trans ?_ Hf1.out))
          exact (h0.setCell (by simp) _).setCell (by simp) _

theorem makeSym_err1 {B K : Int} {c : List UInt8} {id : Int} (h : (cutUp B K c).2 ≠ 0) : makeSym B K c id = ((0, []), (cutUp B K c).2) := if_pos h
theorem makeSym_err2 {B K : Nat} {c : List UInt8} {id : Int} (h : cutCheck B K = 0) (hl : c.length = B) (hid : ¬ (0 ≤ id ∧ id ≤ 9999)) : makeSym B K c id = ((0, []), 3) := by
  have h1 := cutUp_ok h hl
  have h4 : pickOf id ((cutF K B c).length : Nat) = ([], 3) := by
    unfold pickOf
    rw [if_neg (by omega)]
  unfold makeSym
  rw [h1]
  simp [h4]

set_option maxRecDepth 100000 in
set_option maxHeartbeats 1000000 in
theorem codeMake_nw (w : World) (A : Option Addr) (n c : Nat) (B K : Int) (cargo : List UInt8) (id : Int) (h : Sl 1 eByte w (LT w.heap.size) A n cargo) (hnc : n ≤ c) (hcm : c ≤ maxLen) (wB : wfI B) (wK : wfI K) :
    Calls Try.prog 43 #[.agg #[.int .i64 B, .int .i64 K], .slice A n c, .int .i64 id] w fun e w' => ∃ A' n' c', e = .returned (.tuple #[.agg #[.int .i64 (makeSym B K cargo id).1.1, .slice A' n' c'], .int .i64 (makeSym B K cargo id).2]) ∧ (n' ≤ 16 ∧ n' ≤ c' ∧ c' ≤ 16) ∧ ((makeSym B K cargo id).2 = 0 → 1 ≤ n') ∧ Sl 1 eByte w' (NW w.heap.size w'.heap.size) A' n' (makeSym B K cargo id).1.2 ∧ Fr w w' := by
  by_cases hu : (cutUp B K cargo).2 = 0
  · obtain ⟨hck, hl⟩ := cutUp_err hu
    obtain ⟨b, rfl⟩ := Int.eq_ofNat_of_zero_le (show 0 ≤ B by omega)
    obtain ⟨k, rfl⟩ := Int.eq_ofNat_of_zero_le (show 0 ≤ K by have := (cutCheck_ok hck).2.1; omega)
    have hl2 : cargo.length = b := by omega
    obtain rfl : n = b := h.1.symm.trans hl2
    by_cases hid : 0 ≤ id ∧ id ≤ 9999
    · have E := makeSym_ok (id := id) hck hl2 hid
      have e1 : (makeSym n k cargo id).1.1 = id := by rw [E]
      have e2 : (makeSym n k cargo id).2 = 0 := by rw [E]
      rw [e1, e2]
      refine (codeMake_ok w A n c k cargo id h hnc hcm hck hid).mono ?_
      rintro e w' ⟨A', n', c', rfl, h1, h2, h3⟩
      exact ⟨A', n', c', rfl, by omega, fun _ => by omega, h2, h3⟩
    · have E : Hid (makeSym n k cargo id = ((0, []), 3)) := makeSym_err2 hck hl2 hid
      obtain ⟨q1, q2, _⟩ := cutF_count hck hl2
      have E1 : Hid (cutUp n k cargo = (cutF k n cargo, 0)) := cutUp_ok hck hl2
      obtain ⟨X, hX⟩ : ∃ X, X = cutF k n cargo := ⟨_, rfl⟩
      rw [← hX] at E1 q1 q2
      have E2 : Hid (pickOf id (X.length : Nat) = ([], 3)) := by
        unfold pickOf Hid
        rw [if_neg (by omega)]
      rw [E.out]
      clear hX hu hck hl hl2
      (have H := Lib.hid h; clear h; have Hid := Lib.hid hid; clear hid)
      go_enter Try.func43, Try.ntmps43
      go_wp2_with fail
      refine (cutCut_any _ _ _ _ _ _ cargo (H.out.go sByte (by (repeat' (first | exact Below.refl _ _ | refine below_drewN ?_ _ | refine Below.drew ?_ | refine frA ?_ _ | refine Fr.trans ?_ Hf1.out)))) hnc hcm wB wK).mono ?_
      rw [E1.out]
      rintro e w1 ⟨v, rfl, ho, hf1⟩
      obtain ⟨B1, d1, rfl, ⟨hd1, hd2⟩, hs1⟩ := ho.slC wBlock (by decide)
      have hz := blk_go (heap_new (w := w.alloc (.cells #[.int .i64 n, .int .i64 k] 47)) (o := .cells #[.int .i64 0, .slice none 0 0] 53) rfl) hf1
      simp only [World.size_alloc] at hz
      (have Hz := Lib.hid hz; clear hz; have Hf1 := Lib.hid hf1; clear hf1; have Hs1 := Lib.hid hs1; clear hs1; have Ho := Lib.hid ho; clear ho)
      go_wp2_with fail
      refine (pickOf_any _ _ _).mono ?_
      rw [E2.out]
      rintro e w2 ⟨B2, n2, d2, rfl, hn2, _, hs2, hf2⟩
      have hz2 := blk_go Hz.out hf2
      have z0 := cell_of_heap (i := 0) hz2
      have z1 := cell_of_heap (i := 1) hz2
      have zf0 := blk_free (i := 0) hz2
      have zf1 := blk_free (i := 1) hz2
      (have Hz2 := Lib.hid hz2; clear hz2; have Hs2 := Lib.hid hs2; clear hs2; have Hf2 := Lib.hid hf2; clear hf2)
      go_wp2_with fail
      refine bodyPost_ret (v := .tuple #[.agg #[.int .i64 0, .slice none 0 0], .int .i64 3]) ?_ rfl ?_
      · simp [results, Try.results43, go_sem, z0, z1]
      · have h0 : Fr w w2 := by (repeat' (first | exact Below.refl _ _ | refine below_drewN ?_ _ | refine Below.drew ?_ | refine frA ?_ _ | refine Fr.trans ?_ Hf2.out | refine Fr.trans ?_ Hf1.out))
        exact ⟨none, 0, 0, rfl, by omega, by simp, Sl.nil, (h0.setCell (by simp) _).setCell (by simp) _⟩
  · have hne : ((cutUp B K cargo).2 != 0) = true := by rw [bne_iff_ne]; exact hu
    have E : Hid (makeSym B K cargo id = ((0, []), (cutUp B K cargo).2)) := makeSym_err1 hu
    have HU := Lib.hid hu
    rw [E.out]
    clear hu
    (have H := Lib.hid h; clear h)
    go_enter Try.func43, Try.ntmps43
    go_wp2_with fail
    refine (cutCut_any _ _ _ _ _ _ cargo (H.out.go sByte (by (repeat' (first | exact Below.refl _ _ | refine below_drewN ?_ _ | refine Below.drew ?_ | refine frA ?_ _ | refine Fr.trans ?_ Hf1.out)))) hnc hcm wB wK).mono ?_
    rintro e w1 ⟨v, rfl, ho, hf1⟩
    have hz := blk_go (heap_new (w := w.alloc (.cells #[.int .i64 B, .int .i64 K] 47)) (o := .cells #[.int .i64 0, .slice none 0 0] 53) rfl) hf1
    simp only [World.size_alloc] at hz
    have z0 := cell_of_heap (i := 0) hz
    have z1 := cell_of_heap (i := 1) hz
    have zf0 := blk_free (i := 0) hz
    have zf1 := blk_free (i := 1) hz
    (have Hz := Lib.hid hz; clear hz; have Hf1 := Lib.hid hf1; clear hf1; have Ho := Lib.hid ho; clear ho)
    go_wp2_with fail
    refine bodyPost_ret (v := .tuple #[.agg #[.int .i64 0, .slice none 0 0], .int .i64 (cutUp B K cargo).2]) ?_ rfl ?_
    · simp [results, Try.results43, go_sem, z0, z1]
    · have h0 : Fr w w1 := by (repeat' (first | exact Below.refl _ _ | refine below_drewN ?_ _ | refine Below.drew ?_ | refine frA ?_ _ | refine Fr.trans ?_ Hf1.out))
      exact ⟨none, 0, 0, rfl, by omega, fun h => absurd h HU.out, Sl.nil, (h0.setCell (by simp) _).setCell (by simp) _⟩
theorem codeMake_any (w : World) (A : Option Addr) (n c : Nat) (B K : Int) (cargo : List UInt8) (id : Int) (h : Sl 1 eByte w (LT w.heap.size) A n cargo) (hnc : n ≤ c) (hcm : c ≤ maxLen) (wB : wfI B) (wK : wfI K) :
    Calls Try.prog 43 #[.agg #[.int .i64 B, .int .i64 K], .slice A n c, .int .i64 id] w fun e w' => ∃ A' n' c', e = .returned (.tuple #[.agg #[.int .i64 (makeSym B K cargo id).1.1, .slice A' n' c'], .int .i64 (makeSym B K cargo id).2]) ∧ (n' ≤ 16 ∧ n' ≤ c' ∧ c' ≤ 16) ∧ ((makeSym B K cargo id).2 = 0 → 1 ≤ n') ∧ Sl 1 eByte w' (LT w'.heap.size) A' n' (makeSym B K cargo id).1.2 ∧ Fr w w' :=
  (codeMake_nw w A n c B K cargo id h hnc hcm wB wK).mono fun e w' ⟨A', n', c', h1, h2, h3, h4, h5⟩ => ⟨A', n', c', h1, h2, h3, h4.nw sByte, h5⟩

/-- What code.Check answers. -/
def codeCheck (B K id : Int) (len : Nat) : Int := if cutCheck B K ≠ 0 then cutCheck B K else if id < 0 ∨ 9999 < id then 3 else if (len : Int) ≠ K then 4 else 0

set_option maxHeartbeats 1000000 in
theorem codeCheck_any (w : World) (B K id : Int) (A : Option Addr) (n c : Nat) (wB : wfI B) (wK : wfI K) :
    Calls Try.prog 46 #[.agg #[.int .i64 B, .int .i64 K], .agg #[.int .i64 id, .slice A n c]] w fun e w' => e = .returned (.int .i64 (codeCheck B K id n)) ∧ Fr w w' := by
  have CC := Lib.hid (fun W : World => cutCheck_any W B K wB wK)
  by_cases hck : cutCheck B K = 0
  · rw [hck] at CC
    have E : Hid (codeCheck B K id n = if id < 0 ∨ 9999 < id then 3 else if (n : Int) ≠ K then 4 else 0) := by unfold codeCheck Hid; rw [if_neg (by simp [hck])]
    clear hck
    by_cases h1 : id < 0
    · have E1 : Hid (codeCheck B K id n = 3) := by rw [Hid, E.out, if_pos (.inl h1)]
      go_enter Try.func46, Try.ntmps46
      go_wp2_with fail
      refine (CC.out _).mono ?_
      rintro e w1 ⟨rfl, hf1⟩
      have hz := blk_go (heap_new (w := w.alloc (.cells #[.int .i64 B, .int .i64 K] 47)) (o := .cells #[.int .i64 id, .slice A n c] 53) rfl) hf1
      have hp := blk_go (heap_old (o := .cells #[.int .i64 id, .slice A n c] 53) (heap_new (w := w) (o := .cells #[.int .i64 B, .int .i64 K] 47) rfl)) hf1
      simp only [World.size_alloc] at hz
      have z0 := cell_of_heap (i := 0) hz
      have z1 := cell_of_heap (i := 1) hz
      have p1 := cell_of_heap (i := 1) hp
      (have Hz := Lib.hid hz; clear hz; have Hp := Lib.hid hp; clear hp; have Hf1 := Lib.hid hf1; clear hf1)
      go_wp2_with fail
      go_ret
      exact ⟨retI E1.out.symm, (by (repeat' (first | exact Below.refl _ _ | refine below_drewN ?_ _ | refine Below.drew ?_ | refine frA ?_ _ | refine Fr.trans ?_ Hf1.out)))⟩
    · by_cases h2 : 9999 < id
      · have E1 : Hid (codeCheck B K id n = 3) := by rw [Hid, E.out, if_pos (.inr h2)]
        go_enter Try.func46, Try.ntmps46
        go_wp2_with fail
        refine (CC.out _).mono ?_
        rintro e w1 ⟨rfl, hf1⟩
        have hz := blk_go (heap_new (w := w.alloc (.cells #[.int .i64 B, .int .i64 K] 47)) (o := .cells #[.int .i64 id, .slice A n c] 53) rfl) hf1
        have hp := blk_go (heap_old (o := .cells #[.int .i64 id, .slice A n c] 53) (heap_new (w := w) (o := .cells #[.int .i64 B, .int .i64 K] 47) rfl)) hf1
        simp only [World.size_alloc] at hz
        have z0 := cell_of_heap (i := 0) hz
        have z1 := cell_of_heap (i := 1) hz
        have p1 := cell_of_heap (i := 1) hp
        (have Hz := Lib.hid hz; clear hz; have Hp := Lib.hid hp; clear hp; have Hf1 := Lib.hid hf1; clear hf1)
        go_wp2_with fail
        go_ret
        exact ⟨retI E1.out.symm, (by (repeat' (first | exact Below.refl _ _ | refine below_drewN ?_ _ | refine Below.drew ?_ | refine frA ?_ _ | refine Fr.trans ?_ Hf1.out)))⟩
      · by_cases h3 : (n : Int) = K
        · have E1 : Hid (codeCheck B K id n = 0) := by rw [Hid, E.out, if_neg (by omega), if_neg (by simp [h3])]
          have hne : ((n : Int) != K) = false := by rw [h3]; simp
          clear h3
          go_enter Try.func46, Try.ntmps46
          go_wp2_with fail
          refine (CC.out _).mono ?_
          rintro e w1 ⟨rfl, hf1⟩
          have hz := blk_go (heap_new (w := w.alloc (.cells #[.int .i64 B, .int .i64 K] 47)) (o := .cells #[.int .i64 id, .slice A n c] 53) rfl) hf1
          have hp := blk_go (heap_old (o := .cells #[.int .i64 id, .slice A n c] 53) (heap_new (w := w) (o := .cells #[.int .i64 B, .int .i64 K] 47) rfl)) hf1
          simp only [World.size_alloc] at hz
          have z0 := cell_of_heap (i := 0) hz
          have z1 := cell_of_heap (i := 1) hz
          have p1 := cell_of_heap (i := 1) hp
          (have Hz := Lib.hid hz; clear hz; have Hp := Lib.hid hp; clear hp; have Hf1 := Lib.hid hf1; clear hf1)
          go_wp2_with fail
          go_ret
          exact ⟨retI E1.out.symm, (by (repeat' (first | exact Below.refl _ _ | refine below_drewN ?_ _ | refine Below.drew ?_ | refine frA ?_ _ | refine Fr.trans ?_ Hf1.out)))⟩
        · have E1 : Hid (codeCheck B K id n = 4) := by rw [Hid, E.out, if_neg (by omega), if_pos h3]
          have hne : ((n : Int) != K) = true := by rw [bne_iff_ne]; exact h3
          clear h3
          go_enter Try.func46, Try.ntmps46
          go_wp2_with fail
          refine (CC.out _).mono ?_
          rintro e w1 ⟨rfl, hf1⟩
          have hz := blk_go (heap_new (w := w.alloc (.cells #[.int .i64 B, .int .i64 K] 47)) (o := .cells #[.int .i64 id, .slice A n c] 53) rfl) hf1
          have hp := blk_go (heap_old (o := .cells #[.int .i64 id, .slice A n c] 53) (heap_new (w := w) (o := .cells #[.int .i64 B, .int .i64 K] 47) rfl)) hf1
          simp only [World.size_alloc] at hz
          have z0 := cell_of_heap (i := 0) hz
          have z1 := cell_of_heap (i := 1) hz
          have p1 := cell_of_heap (i := 1) hp
          (have Hz := Lib.hid hz; clear hz; have Hp := Lib.hid hp; clear hp; have Hf1 := Lib.hid hf1; clear hf1)
          go_wp2_with fail
          go_ret
          exact ⟨retI E1.out.symm, (by (repeat' (first | exact Below.refl _ _ | refine below_drewN ?_ _ | refine Below.drew ?_ | refine frA ?_ _ | refine Fr.trans ?_ Hf1.out)))⟩
  · have E1 : Hid (codeCheck B K id n = cutCheck B K) := if_pos hck
    have hne : (cutCheck B K != 0) = true := by rw [bne_iff_ne]; exact hck
    clear hck
    go_enter Try.func46, Try.ntmps46
    go_wp2_with fail
    refine (CC.out _).mono ?_
    rintro e w1 ⟨rfl, hf1⟩
    have hz := blk_go (heap_new (w := w.alloc (.cells #[.int .i64 B, .int .i64 K] 47)) (o := .cells #[.int .i64 id, .slice A n c] 53) rfl) hf1
    have hp := blk_go (heap_old (o := .cells #[.int .i64 id, .slice A n c] 53) (heap_new (w := w) (o := .cells #[.int .i64 B, .int .i64 K] 47) rfl)) hf1
    simp only [World.size_alloc] at hz
    have z0 := cell_of_heap (i := 0) hz
    have z1 := cell_of_heap (i := 1) hz
    have p1 := cell_of_heap (i := 1) hp
    (have Hz := Lib.hid hz; clear hz; have Hp := Lib.hid hp; clear hp; have Hf1 := Lib.hid hf1; clear hf1)
    go_wp2_with fail
    go_ret
    exact ⟨retI E1.out.symm, (by (repeat' (first | exact Below.refl _ _ | refine below_drewN ?_ _ | refine Below.drew ?_ | refine frA ?_ _ | refine Fr.trans ?_ Hf1.out)))⟩
end Go.Proofs.Ytnfjghldcopaaaa
