/- Contracts of package code. No condition. -/
import Derived.Test.YtbincgbgeccccaaGreatDoorCodeP
set_option linter.unusedSimpArgs false
set_option linter.unusedVariables false
namespace Go.Proofs.YtbincgbgeccccaaGreatDoor
open Go.RowKit

theorem makeSym_err1 {B K : Int} {c : List UInt8} {id : Int} (h : (cutUp B K c).2 ≠ 0) : makeSym B K c id = ((0, []), (cutUp B K c).2) := if_pos h
theorem makeSym_err2 {B K : Nat} {c : List UInt8} {id : Int} (h : cutCheck B K = 0) (hl : c.length = B) (hid : ¬ (0 ≤ id ∧ id ≤ 9999)) : makeSym B K c id = ((0, []), 3) := by
  have h1 := cutUp_ok h hl
  have h4 : pickOf id ((cutF K B c).length : Nat) = ([], 3) := by
    unfold pickOf
    rw [if_neg (by omega)]
  unfold makeSym
  rw [h1]
  simp [h4]

/-- What code.Check answers. -/
def codeCheck (B K id : Int) (len : Nat) : Int := if cutCheck B K ≠ 0 then cutCheck B K else if id < 0 ∨ 9999 < id then 3 else if (len : Int) ≠ K then 4 else 0

set_option maxHeartbeats 1000000 in
theorem codeCheck_any (w : World) (B K id : Int) (A : Option Addr) (n c : Nat) (wB : wfI B) (wK : wfI K) :
    Calls Tryz.prog 44 #[.agg #[.int .i64 B, .int .i64 K], .agg #[.int .i64 id, .slice A n c]] w fun e w' => e = .returned (.int .i64 (codeCheck B K id n)) ∧ Fr w w' := by
  have CC := Lib.hid (fun W : World => cutCheck_any W B K wB wK)
  by_cases hck : cutCheck B K = 0
  · rw [hck] at CC
    have E : Hid (codeCheck B K id n = if id < 0 ∨ 9999 < id then 3 else if (n : Int) ≠ K then 4 else 0) := by unfold codeCheck Hid; rw [if_neg (by simp [hck])]
    clear hck
    by_cases h1 : id < 0
    · have E1 : Hid (codeCheck B K id n = 3) := by rw [Hid, E.out, if_pos (.inl h1)]
      go_enter Tryz.func44, Tryz.ntmps44
      go_wp2_with fail
      refine (CC.out _).mono ?_
      rintro e w1 ⟨rfl, hf1⟩
      have hz := blk_go (heap_new (w := w.alloc (.cells #[.int .i64 B, .int .i64 K] 26)) (o := .cells #[.int .i64 id, .slice A n c] 31) rfl) hf1
      have hp := blk_go (heap_old (o := .cells #[.int .i64 id, .slice A n c] 31) (heap_new (w := w) (o := .cells #[.int .i64 B, .int .i64 K] 26) rfl)) hf1
      simp only [World.size_alloc] at hz
      have z0 := cell_of_heap (i := 0) hz
      have z1 := cell_of_heap (i := 1) hz
      have p1 := cell_of_heap (i := 1) hp
      (have Hz := Lib.hid hz; clear hz; have Hp := Lib.hid hp; clear hp; have Hf1 := Lib.hid hf1; clear hf1)
      go_wp2_with fail
      go_ret
      exact ⟨retI E1.out.symm, (by (repeat' (first | exact Below.refl _ _ | refine below_drewN ?_ _ | refine Below.drew ?_ | refine frA ?_ _ | refine Fr.trans ?_ Hf1.out)))⟩
    · by_cases h2 : 9999 < id
      · have E1 : Hid (codeCheck B K id n = 3) := by rw [Hid, E.out, if_pos (.inr h2)]
        go_enter Tryz.func44, Tryz.ntmps44
        go_wp2_with fail
        refine (CC.out _).mono ?_
        rintro e w1 ⟨rfl, hf1⟩
        have hz := blk_go (heap_new (w := w.alloc (.cells #[.int .i64 B, .int .i64 K] 26)) (o := .cells #[.int .i64 id, .slice A n c] 31) rfl) hf1
        have hp := blk_go (heap_old (o := .cells #[.int .i64 id, .slice A n c] 31) (heap_new (w := w) (o := .cells #[.int .i64 B, .int .i64 K] 26) rfl)) hf1
        simp only [World.size_alloc] at hz
        have z0 := cell_of_heap (i := 0) hz
        have z1 := cell_of_heap (i := 1) hz
        have p1 := cell_of_heap (i := 1) hp
        (have Hz := Lib.hid hz; clear hz; have Hp := Lib.hid hp; clear hp; have Hf1 := Lib.hid hf1; clear hf1)
        go_wp2_with fail
        go_ret
        exact ⟨retI E1.out.symm, (by (repeat' (first | exact Below.refl _ _ | refine below_drewN ?_ _ | refine Below.drew ?_ | refine frA ?_ _ | refine Fr.trans ?_ Hf1.out)))⟩
      · by_cases h3 : (n : Int) = K
        · have E1 : Hid (codeCheck B K id n = 0) := by rw [Hid, E.out, if_neg (by omega), if_neg (by simp [h3])]
          have hne : ((n : Int) != K) = false := by rw [h3]; simp
          clear h3
          go_enter Tryz.func44, Tryz.ntmps44
          go_wp2_with fail
          refine (CC.out _).mono ?_
          rintro e w1 ⟨rfl, hf1⟩
          have hz := blk_go (heap_new (w := w.alloc (.cells #[.int .i64 B, .int .i64 K] 26)) (o := .cells #[.int .i64 id, .slice A n c] 31) rfl) hf1
          have hp := blk_go (heap_old (o := .cells #[.int .i64 id, .slice A n c] 31) (heap_new (w := w) (o := .cells #[.int .i64 B, .int .i64 K] 26) rfl)) hf1
          simp only [World.size_alloc] at hz
          have z0 := cell_of_heap (i := 0) hz
          have z1 := cell_of_heap (i := 1) hz
          have p1 := cell_of_heap (i := 1) hp
          (have Hz := Lib.hid hz; clear hz; have Hp := Lib.hid hp; clear hp; have Hf1 := Lib.hid hf1; clear hf1)
          go_wp2_with fail
          go_ret
          exact ⟨retI E1.out.symm, (by (repeat' (first | exact Below.refl _ _ | refine below_drewN ?_ _ | refine Below.drew ?_ | refine frA ?_ _ | refine Fr.trans ?_ Hf1.out)))⟩
        · have E1 : Hid (codeCheck B K id n = 4) := by rw [Hid, E.out, if_neg (by omega), if_pos h3]
          have hne : ((n : Int) != K) = true := by rw [bne_iff_ne]; exact h3
          clear h3
          go_enter Tryz.func44, Tryz.ntmps44
          go_wp2_with fail
          refine (CC.out _).mono ?_
          rintro e w1 ⟨rfl, hf1⟩
          have hz := blk_go (heap_new (w := w.alloc (.cells #[.int .i64 B, .int .i64 K] 26)) (o := .cells #[.int .i64 id, .slice A n c] 31) rfl) hf1
          have hp := blk_go (heap_old (o := .cells #[.int .i64 id, .slice A n c] 31) (heap_new (w := w) (o := .cells #[.int .i64 B, .int .i64 K] 26) rfl)) hf1
          simp only [World.size_alloc] at hz
          have z0 := cell_of_heap (i := 0) hz
          have z1 := cell_of_heap (i := 1) hz
          have p1 := cell_of_heap (i := 1) hp
          (have Hz := Lib.hid hz; clear hz; have Hp := Lib.hid hp; clear hp; have Hf1 := Lib.hid hf1; clear hf1)
          go_wp2_with fail
          go_ret
          exact ⟨retI E1.out.symm, (by (repeat' (first | exact Below.refl _ _ | refine below_drewN ?_ _ | refine Below.drew ?_ | refine frA ?_ _ | refine Fr.trans ?_ Hf1.out)))⟩
  · have E1 : Hid (codeCheck B K id n = cutCheck B K) := if_pos hck
    have hne : (cutCheck B K != 0) = true := by rw [bne_iff_ne]; exact hck
    clear hck
    go_enter Tryz.func44, Tryz.ntmps44
    go_wp2_with fail
    refine (CC.out _).mono ?_
    rintro e w1 ⟨rfl, hf1⟩
    have hz := blk_go (heap_new (w := w.alloc (.cells #[.int .i64 B, .int .i64 K] 26)) (o := .cells #[.int .i64 id, .slice A n c] 31) rfl) hf1
    have hp := blk_go (heap_old (o := .cells #[.int .i64 id, .slice A n c] 31) (heap_new (w := w) (o := .cells #[.int .i64 B, .int .i64 K] 26) rfl)) hf1
    simp only [World.size_alloc] at hz
    have z0 := cell_of_heap (i := 0) hz
    have z1 := cell_of_heap (i := 1) hz
    have p1 := cell_of_heap (i := 1) hp
    (have Hz := Lib.hid hz; clear hz; have Hp := Lib.hid hp; clear hp; have Hf1 := Lib.hid hf1; clear hf1)
    go_wp2_with fail
    go_ret
    exact ⟨retI E1.out.symm, (by (repeat' (first | exact Below.refl _ _ | refine below_drewN ?_ _ | refine Below.drew ?_ | refine frA ?_ _ | refine Fr.trans ?_ Hf1.out)))⟩
theorem codeCheck_ok {B K id : Int} {len : Nat} (h : codeCheck B K id len = 0) : cutCheck B K = 0 ∧ (0 ≤ id ∧ id ≤ 9999) ∧ (len : Int) = K := by
  unfold codeCheck at h
  split at h
  · rename_i h1; exact absurd h h1
  · split at h
    · cases h
    · split at h
      · cases h
      · rename_i h1 h2 h3
        simp only [ne_eq, Decidable.not_not] at h1 h3
        exact ⟨h1, by omega, h3⟩
theorem codeCheck_of {B K id : Int} {len : Nat} (h1 : cutCheck B K = 0) (h2 : 0 ≤ id ∧ id ≤ 9999) (h3 : (len : Int) = K) : codeCheck B K id len = 0 := by
  unfold codeCheck
  rw [if_neg (by simp [h1]), if_neg (by omega), if_neg (by simp [h3])]
end Go.Proofs.YtbincgbgeccccaaGreatDoor
