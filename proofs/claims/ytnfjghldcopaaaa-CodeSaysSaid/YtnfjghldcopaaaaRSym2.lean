/- Contracts of the reference's SymbolOf and CheckSymbol, errors too. No condition. -/
import Derived.Test.YtnfjghldcopaaaaRSym
set_option linter.unusedSimpArgs false
set_option linter.unusedVariables false
namespace Go.Proofs.Ytnfjghldcopaaaa
open Go.RowKit
attribute [local irreducible] wpList

set_option maxRecDepth 100000 in
set_option maxHeartbeats 1000000 in
theorem refSym_any (w : World) (A : Option Addr) (n c : Nat) (B K : Int) (cargo : List UInt8) (id : Int) (h : Sl 1 eByte w (LT w.heap.size) A n cargo) (wB : wfI B) (wK : wfI K) :
    Calls Try.prog 44 #[.agg #[.int .i64 B, .int .i64 K], .slice A n c, .int .i64 id] w fun e w' => ∃ A' n' c', e = .returned (.tuple #[.agg #[.int .i64 (makeSym B K cargo id).1.1, .slice A' n' c'], .int .i64 (makeSym B K cargo id).2]) ∧ (n' ≤ 16 ∧ n' ≤ c' ∧ c' ≤ maxLen) ∧ Sl 1 eByte w' (LT w'.heap.size) A' n' (makeSym B K cargo id).1.2 ∧ Fr w w' := by
  by_cases hu : (cutUp B K cargo).2 = 0
  · obtain ⟨hck, hl⟩ := cutUp_err hu
    obtain ⟨b, rfl⟩ := Int.eq_ofNat_of_zero_le (show 0 ≤ B by omega)
    obtain ⟨k, rfl⟩ := Int.eq_ofNat_of_zero_le (show 0 ≤ K by have := (cutCheck_ok hck).2.1; omega)
    have hl2 : cargo.length = b := by omega
    obtain rfl : n = b := h.1.symm.trans hl2
    by_cases hid : 0 ≤ id ∧ id ≤ 9999
    · have E := makeSym_ok (id := id) hck hl2 hid
      have e1 : (makeSym n k cargo id).1.1 = id := by rw [E]
      have e2 : (makeSym n k cargo id).2 = 0 := by rw [E]
      rw [e1, e2]
      exact refSym_ok w A n c k cargo id h hck hid
    · have E : Hid (makeSym n k cargo id = ((0, []), 3)) := makeSym_err2 hck hl2 hid
      obtain ⟨q1, q2, _⟩ := cutF_count hck hl2
      have E1 : Hid (cutUp n k cargo = (cutF k n cargo, 0)) := cutUp_ok hck hl2
      obtain ⟨X, hX⟩ : ∃ X, X = cutF k n cargo := ⟨_, rfl⟩
      rw [← hX] at E1 q1 q2
      have E2 : Hid (pickedR id (X.length : Nat) = ([], 3)) := by
        unfold pickedR Hid
        rw [if_neg (by omega)]
      rw [E.out]
      clear hX hu hck hl hl2
      (have H := Lib.hid h; clear h; have Hid := Lib.hid hid; clear hid)
      go_enter Try.func44, Try.ntmps44
      go_wp2_with fail
      (with_reducible refine (refCutUp_any _ _ _ _ _ _ cargo (H.out.go sByte (by (repeat' (first | exact Below.refl _ _ | refine below_drewN ?_ _ | refine Below.drew ?_ | refine frA ?_ _ | refine Fr.trans ?_ Hf1.out)))) wB wK).mono ?_)
      rw [E1.out]
      rintro e w1 ⟨v, rfl, ho, hf1⟩
      obtain ⟨B1, d1, rfl, ⟨hd1, hd2⟩, hs1⟩ := ho.slC wBlock (by decide)
      have hz := blk_go (heap_new (w := w.alloc (.cells #[.int .i64 n, .int .i64 k] 47)) (o := .cells #[.int .i64 0, .slice none 0 0] 53) rfl) hf1
      simp only [World.size_alloc] at hz
      (have Hz := Lib.hid hz; clear hz; have Hf1 := Lib.hid hf1; clear hf1; have Hs1 := Lib.hid hs1; clear hs1; have Ho := Lib.hid ho; clear ho)
      go_wp2_with fail
      (with_reducible refine (refPicked_any _ _ _).mono ?_)
      rw [E2.out]
      rintro e w2 ⟨B2, n2, d2, rfl, hn2, hs2, hf2⟩
      have hz2 := blk_go Hz.out hf2
      have z0 := cell_of_heap (i := 0) hz2
      have z1 := cell_of_heap (i := 1) hz2
      have zf0 := blk_free (i := 0) hz2
      have zf1 := blk_free (i := 1) hz2
      (have Hz2 := Lib.hid hz2; clear hz2; have Hs2 := Lib.hid hs2; clear hs2; have Hf2 := Lib.hid hf2; clear hf2)
      go_wp2_with fail
      refine bodyPost_ret (v := .tuple #[.agg #[.int .i64 0, .slice none 0 0], .int .i64 3]) ?_ rfl ?_
      · simp [results, Try.results44, go_sem, z0, z1]
      · have h0 : Fr w w2 := by (repeat' (first | exact Below.refl _ _ | refine below_drewN ?_ _ | refine Below.drew ?_ | refine frA ?_ _ | refine Fr.trans ?_ Hf2.out | refine Fr.trans ?_ Hf1.out))
        exact ⟨none, 0, 0, rfl, ⟨by omega, by omega, by unfold maxLen; omega⟩, Sl.nil, (h0.setCell (by simp) _).setCell (by simp) _⟩
  · have hne : ((cutUp B K cargo).2 != 0) = true := by rw [bne_iff_ne]; exact hu
    have E : Hid (makeSym B K cargo id = ((0, []), (cutUp B K cargo).2)) := makeSym_err1 hu
    rw [E.out]
    clear hu
    (have H := Lib.hid h; clear h)
    go_enter Try.func44, Try.ntmps44
    go_wp2_with fail
    (with_reducible refine (refCutUp_any _ _ _ _ _ _ cargo (H.out.go sByte (by (repeat' (first | exact Below.refl _ _ | refine below_drewN ?_ _ | refine Below.drew ?_ | refine frA ?_ _ | refine Fr.trans ?_ Hf1.out)))) wB wK).mono ?_)
    rintro e w1 ⟨v, rfl, ho, hf1⟩
    have hz := blk_go (heap_new (w := w.alloc (.cells #[.int .i64 B, .int .i64 K] 47)) (o := .cells #[.int .i64 0, .slice none 0 0] 53) rfl) hf1
    simp only [World.size_alloc] at hz
    have z0 := cell_of_heap (i := 0) hz
    have z1 := cell_of_heap (i := 1) hz
    have zf0 := blk_free (i := 0) hz
    have zf1 := blk_free (i := 1) hz
    (have Hz := Lib.hid hz; clear hz; have Hf1 := Lib.hid hf1; clear hf1; have Ho := Lib.hid ho; clear ho)
    go_wp2_with fail
    refine bodyPost_ret (v := .tuple #[.agg #[.int .i64 0, .slice none 0 0], .int .i64 (cutUp B K cargo).2]) ?_ rfl ?_
    · simp [results, Try.results44, go_sem, z0, z1]
    · have h0 : Fr w w1 := by (repeat' (first | exact Below.refl _ _ | refine below_drewN ?_ _ | refine Below.drew ?_ | refine frA ?_ _ | refine Fr.trans ?_ Hf1.out))
      exact ⟨none, 0, 0, rfl, ⟨by omega, by omega, by unfold maxLen; omega⟩, Sl.nil, (h0.setCell (by simp) _).setCell (by simp) _⟩

set_option maxHeartbeats 1000000 in
theorem refCheckSym_any (w : World) (B K id : Int) (A : Option Addr) (n c : Nat) (wB : wfI B) (wK : wfI K) :
    Calls Try.prog 47 #[.agg #[.int .i64 B, .int .i64 K], .agg #[.int .i64 id, .slice A n c]] w fun e w' => e = .returned (.int .i64 (codeCheck B K id n)) ∧ Fr w w' := by
  have CC := Lib.hid (fun W : World => refCheckPlan_any W B K wB wK)
  by_cases hck : cutCheck B K = 0
  · rw [hck] at CC
    have E : Hid (codeCheck B K id n = if id < 0 ∨ 9999 < id then 3 else if (n : Int) ≠ K then 4 else 0) := by unfold codeCheck Hid; rw [if_neg (by simp [hck])]
    clear hck
    by_cases h1 : id < 0 ∨ 9999 < id
    · have E1 : Hid (codeCheck B K id n = 3) := by rw [Hid, E.out, if_pos h1]
      have r1 : inR id 0 9999 = false := inR_f (by omega)
      clear h1
      go_enter Try.func47, Try.ntmps47
      go_wp2_with fail
      (with_reducible refine (CC.out _).mono ?_)
      rintro e w1 ⟨rfl, hf1⟩
      have hz := blk_go (heap_new (w := w.alloc (.cells #[.int .i64 B, .int .i64 K] 47)) (o := .cells #[.int .i64 id, .slice A n c] 53) rfl) hf1
      have hp := blk_go (heap_old (o := .cells #[.int .i64 id, .slice A n c] 53) (heap_new (w := w) (o := .cells #[.int .i64 B, .int .i64 K] 47) rfl)) hf1
      simp only [World.size_alloc] at hz
      have z0 := cell_of_heap (i := 0) hz
      have z1 := cell_of_heap (i := 1) hz
      have p1 := cell_of_heap (i := 1) hp
      (have Hz := Lib.hid hz; clear hz; have Hp := Lib.hid hp; clear hp; have Hf1 := Lib.hid hf1; clear hf1)
      go_wp2_with (go_at_call 61; refine (in_any _ _ _ _).mono ?_; rintro e w' ⟨rfl, rfl⟩)
      go_ret
      exact ⟨retI E1.out.symm, (by (repeat' (first | exact Below.refl _ _ | refine below_drewN ?_ _ | refine Below.drew ?_ | refine frA ?_ _ | refine Fr.trans ?_ Hf1.out)))⟩
    · have r1 : inR id 0 9999 = true := inR_t (by omega)
      by_cases h3 : (n : Int) = K
      · have E1 : Hid (codeCheck B K id n = 0) := by rw [Hid, E.out, if_neg (by omega), if_neg (by simp [h3])]
        have hne : ((n : Int) != K) = false := by rw [h3]; simp
        clear h3 h1
        go_enter Try.func47, Try.ntmps47
        go_wp2_with fail
        (with_reducible refine (CC.out _).mono ?_)
        rintro e w1 ⟨rfl, hf1⟩
        have hz := blk_go (heap_new (w := w.alloc (.cells #[.int .i64 B, .int .i64 K] 47)) (o := .cells #[.int .i64 id, .slice A n c] 53) rfl) hf1
        have hp := blk_go (heap_old (o := .cells #[.int .i64 id, .slice A n c] 53) (heap_new (w := w) (o := .cells #[.int .i64 B, .int .i64 K] 47) rfl)) hf1
        simp only [World.size_alloc] at hz
        have z0 := cell_of_heap (i := 0) hz
        have z1 := cell_of_heap (i := 1) hz
        have p1 := cell_of_heap (i := 1) hp
        (have Hz := Lib.hid hz; clear hz; have Hp := Lib.hid hp; clear hp; have Hf1 := Lib.hid hf1; clear hf1)
        go_wp2_with (go_at_call 61; refine (in_any _ _ _ _).mono ?_; rintro e w' ⟨rfl, rfl⟩)
        go_ret
        exact ⟨retI E1.out.symm, (by (repeat' (first | exact Below.refl _ _ | refine below_drewN ?_ _ | refine Below.drew ?_ | refine frA ?_ _ | refine Fr.trans ?_ Hf1.out)))⟩
      · have E1 : Hid (codeCheck B K id n = 4) := by rw [Hid, E.out, if_neg (by omega), if_pos h3]
        have hne : ((n : Int) != K) = true := by rw [bne_iff_ne]; exact h3
        clear h3 h1
        go_enter Try.func47, Try.ntmps47
        go_wp2_with fail
        (with_reducible refine (CC.out _).mono ?_)
        rintro e w1 ⟨rfl, hf1⟩
        have hz := blk_go (heap_new (w := w.alloc (.cells #[.int .i64 B, .int .i64 K] 47)) (o := .cells #[.int .i64 id, .slice A n c] 53) rfl) hf1
        have hp := blk_go (heap_old (o := .cells #[.int .i64 id, .slice A n c] 53) (heap_new (w := w) (o := .cells #[.int .i64 B, .int .i64 K] 47) rfl)) hf1
        simp only [World.size_alloc] at hz
        have z0 := cell_of_heap (i := 0) hz
        have z1 := cell_of_heap (i := 1) hz
        have p1 := cell_of_heap (i := 1) hp
        (have Hz := Lib.hid hz; clear hz; have Hp := Lib.hid hp; clear hp; have Hf1 := Lib.hid hf1; clear hf1)
        go_wp2_with (go_at_call 61; refine (in_any _ _ _ _).mono ?_; rintro e w' ⟨rfl, rfl⟩)
        go_ret
        exact ⟨retI E1.out.symm, (by (repeat' (first | exact Below.refl _ _ | refine below_drewN ?_ _ | refine Below.drew ?_ | refine frA ?_ _ | refine Fr.trans ?_ Hf1.out)))⟩
  · have E1 : Hid (codeCheck B K id n = cutCheck B K) := if_pos hck
    have hne : (cutCheck B K != 0) = true := by rw [bne_iff_ne]; exact hck
    clear hck
    go_enter Try.func47, Try.ntmps47
    go_wp2_with fail
    (with_reducible refine (CC.out _).mono ?_)
    rintro e w1 ⟨rfl, hf1⟩
    have hz := blk_go (heap_new (w := w.alloc (.cells #[.int .i64 B, .int .i64 K] 47)) (o := .cells #[.int .i64 id, .slice A n c] 53) rfl) hf1
    have hp := blk_go (heap_old (o := .cells #[.int .i64 id, .slice A n c] 53) (heap_new (w := w) (o := .cells #[.int .i64 B, .int .i64 K] 47) rfl)) hf1
    simp only [World.size_alloc] at hz
    have z0 := cell_of_heap (i := 0) hz
    have z1 := cell_of_heap (i := 1) hz
    have p1 := cell_of_heap (i := 1) hp
    (have Hz := Lib.hid hz; clear hz; have Hp := Lib.hid hp; clear hp; have Hf1 := Lib.hid hf1; clear hf1)
    go_wp2_with (go_at_call 61; refine (in_any _ _ _ _).mono ?_; rintro e w' ⟨rfl, rfl⟩)
    go_ret
    exact ⟨retI E1.out.symm, (by (repeat' (first | exact Below.refl _ _ | refine below_drewN ?_ _ | refine Below.drew ?_ | refine frA ?_ _ | refine Fr.trans ?_ Hf1.out)))⟩
end Go.Proofs.Ytnfjghldcopaaaa
