/- Contracts of the reference's BlocksOf, CheckPlan, CutUp, Joined. No condition. -/
import Derived.Test.YtbincgbgeccccaaGreatDoorCut
import Derived.Test.YtbincgbgeccccaaGreatDoorSum
import Derived.Test.YtbincgbgeccccaaGreatDoorApp
import Derived.Test.YtbincgbgeccccaaGreatDoorConcat
set_option linter.unusedSimpArgs false
set_option linter.unusedVariables false
namespace Go.Proofs.YtbincgbgeccccaaGreatDoor
open Go.RowKit

theorem blocks_alt {B K : Int} (hB : 1 ≤ B) (hK : 1 ≤ K) : blocksOf B K = B / K + (if 0 < B % K then 1 else 0) := by
  have e : blocksOf B K = (B - 1) / K + 1 := by unfold blocksOf; rw [if_neg (by omega)]
  have h1 := Int.mul_ediv_add_emod B K
  have h2 := Int.emod_nonneg B (show K ≠ 0 by omega)
  have h3 := Int.emod_lt_of_pos B (show 0 < K by omega)
  rw [e]
  generalize B / K = q at *
  generalize B % K = r at *
  split
  · have : B - 1 = (r - 1) + K * q := by omega
    rw [this, Int.add_mul_ediv_left _ _ (by omega), Int.ediv_eq_zero_of_lt (by omega) (by omega)]; omega
  · have : B - 1 = (K - 1) + K * (q - 1) := by rw [Int.mul_sub]; omega
    rw [this, Int.add_mul_ediv_left _ _ (by omega), Int.ediv_eq_zero_of_lt (by omega) (by omega)]; omega

set_option maxHeartbeats 400000 in
theorem refBlocks_any (w : World) (B K : Int) (hB : wfI B) (hK : wfI K) :
    Calls Tryz.prog 99 #[.agg #[.int .i64 B, .int .i64 K]] w fun e w' => e = .returned (.int .i64 (blocksOf B K)) ∧ Fr w w' := by
  obtain ⟨hB1, hB2⟩ := hB.bd
  obtain ⟨hK1, hK2⟩ := hK.bd
  by_cases h1 : B < 1
  · have E : Hid (blocksOf B K = 0) := if_pos (.inr h1)
    clear hB1 hB2 hK1 hK2
    go_enter Tryz.func99, Tryz.ntmps99
    go_wp2
    go_ret
    exact ⟨retI E.out.symm, (by (repeat' (first | exact Below.refl _ _ | refine below_drewN ?_ _ | refine Below.drew ?_ | refine frA ?_ _ | refine Fr.trans ?_ Hf1.out)))⟩
  · by_cases h2 : K < 1
    · have E : Hid (blocksOf B K = 0) := if_pos (.inl h2)
      clear hB1 hB2 hK1 hK2
      go_enter Tryz.func99, Tryz.ntmps99
      go_wp2
      go_ret
      exact ⟨retI E.out.symm, (by (repeat' (first | exact Below.refl _ _ | refine below_drewN ?_ _ | refine Below.drew ?_ | refine frA ?_ _ | refine Fr.trans ?_ Hf1.out)))⟩
    · have E := Lib.hid (blocks_alt (B := B) (K := K) (by omega) (by omega))
      have h3 := Int.ediv_le_self K (show 0 ≤ B by omega)
      have h4 := Int.ediv_nonneg (show 0 ≤ B by omega) (show 0 ≤ K by omega)
      have h5 := Int.emod_lt_of_pos B (show 0 < K by omega)
      have h6 : 0 < B % K → B / K + 1 ≤ 9223372036854775807 := by
        intro h7
        have e1 := Int.mul_ediv_add_emod B K
        have e2 : 2 ≤ K := by omega
        have e3 : 2 * (B / K) ≤ K * (B / K) := Int.mul_le_mul_of_nonneg_right e2 h4
        generalize B / K = q at *
        generalize B % K = r at *
        generalize K * q = z at *
        omega
      by_cases h7 : 0 < B % K
      · have E2 := Lib.hid h7
        have h8 := h6 h7
        clear hB1 hK1 hK2 h5 h6
        go_enter Tryz.func99, Tryz.ntmps99
        go_wp2
        go_ret
        exact ⟨retI (by rw [E.out, if_pos E2.out]), (by (repeat' (first | exact Below.refl _ _ | refine below_drewN ?_ _ | refine Below.drew ?_ | refine frA ?_ _ | refine Fr.trans ?_ Hf1.out)))⟩
      · have E2 := Lib.hid h7
        clear hB1 hK1 hK2 h5 h6
        go_enter Tryz.func99, Tryz.ntmps99
        go_wp2
        go_ret
        exact ⟨retI (by rw [E.out, if_neg (Int.not_lt.2 E2.out)]; omega), (by (repeat' (first | exact Below.refl _ _ | refine below_drewN ?_ _ | refine Below.drew ?_ | refine frA ?_ _ | refine Fr.trans ?_ Hf1.out)))⟩

set_option maxHeartbeats 400000 in
theorem refCheckPlan_any (w : World) (B K : Int) (hB : wfI B) (hK : wfI K) :
    Calls Tryz.prog 78 #[.agg #[.int .i64 B, .int .i64 K]] w fun e w' => e = .returned (.int .i64 (cutCheck B K)) ∧ Fr w w' := by
  by_cases h : B < 1 ∨ 360 < B ∨ K < 1 ∨ 16 < K
  · have E : Hid (cutCheck B K = 3) := if_pos h
    by_cases h1 : 1 ≤ B ∧ B ≤ 360
    · have r1 := inR_t h1
      have r2 : inR K 1 16 = false := inR_f (by omega)
      clear h h1
      go_enter Tryz.func78, Tryz.ntmps78
      go_wp2_with (go_at_call 62; refine (in_any _ _ _ _).mono ?_; rintro e w' ⟨rfl, rfl⟩)
      go_ret
      exact ⟨retI E.out.symm, (by (repeat' (first | exact Below.refl _ _ | refine below_drewN ?_ _ | refine Below.drew ?_ | refine frA ?_ _ | refine Fr.trans ?_ Hf1.out)))⟩
    · have r1 : inR B 1 360 = false := inR_f h1
      clear h h1
      go_enter Tryz.func78, Tryz.ntmps78
      go_wp2_with (go_at_call 62; refine (in_any _ _ _ _).mono ?_; rintro e w' ⟨rfl, rfl⟩)
      go_ret
      exact ⟨retI E.out.symm, (by (repeat' (first | exact Below.refl _ _ | refine below_drewN ?_ _ | refine Below.drew ?_ | refine frA ?_ _ | refine Fr.trans ?_ Hf1.out)))⟩
  · have r1 : inR B 1 360 = true := inR_t (by omega)
    have r2 : inR K 1 16 = true := inR_t (by omega)
    have E : Hid (cutCheck B K = if 24 < blocksOf B K then 2 else 0) := if_neg h
    clear h
    by_cases h5 : 24 < blocksOf B K
    all_goals
      have E2 := Lib.hid h5
      go_enter Tryz.func78, Tryz.ntmps78
      go_wp2_with (first | (go_at_call 62; refine (in_any _ _ _ _).mono ?_; rintro e w' ⟨rfl, rfl⟩) | (go_at_call 99; refine (refBlocks_any _ _ _ hB hK).mono ?_; rintro e w1 ⟨rfl, hf1⟩; have Hf1 := Lib.hid hf1; clear hf1))
      go_ret
      exact ⟨retI (by rw [E.out]; simp [E2.out]), (by (repeat' (first | exact Below.refl _ _ | refine below_drewN ?_ _ | refine Below.drew ?_ | refine frA ?_ _ | refine Fr.trans ?_ Hf1.out)))⟩

/-- A block, as far as it is filled. -/
def fillTo (p : List UInt8) (k : Nat) : List UInt8 := p.take k ++ List.replicate (p.length - k) 0
theorem fillTo_zero (p : List UInt8) : fillTo p 0 = List.replicate p.length 0 := by simp [fillTo]
theorem fillTo_all (p : List UInt8) {k : Nat} (h : p.length ≤ k) : fillTo p k = p := by simp [fillTo, List.take_of_length_le h, Nat.sub_eq_zero_of_le h]
theorem length_fillTo (p : List UInt8) {k : Nat} (h : k ≤ p.length) : (fillTo p k).length = p.length := by simp [fillTo]; omega
theorem fillTo_get (p : List UInt8) {k : Nat} (h : k < p.length) : (fillTo p k)[k]? = some 0 := by
  unfold fillTo
  rw [List.getElem?_append_right (by rw [List.length_take]; omega), List.length_take, Nat.min_eq_left (by omega), Nat.sub_self]
  rw [List.getElem?_replicate, if_pos (by omega)]
theorem fillTo_set (p : List UInt8) {k : Nat} {x : UInt8} (h : p[k]? = some x) : (fillTo p k).set k x = fillTo p (k + 1) := by
  have hk := (List.getElem?_eq_some_iff.1 h).1
  unfold fillTo
  rw [List.set_append_right _ _ (by rw [List.length_take]; omega), List.length_take, Nat.min_eq_left (by omega), Nat.sub_self, take_snoc' h, List.append_assoc]
  obtain ⟨m, hm⟩ : ∃ m, p.length - k = m + 1 := ⟨p.length - k - 1, by omega⟩
  rw [hm, List.replicate_succ, List.set_cons_zero, show p.length - (k + 1) = m from by omega]; rfl
theorem fillTo_skip (p : List UInt8) {k : Nat} (h : p[k]? = some 0) : fillTo p k = fillTo p (k + 1) := by
  rw [← fillTo_set p h]
  apply List.ext_getElem?
  intro i
  by_cases hi : i = k
  · subst hi
    have hk := (List.getElem?_eq_some_iff.1 h).1
    rw [List.getElem?_set_self (by rw [length_fillTo p (by omega)]; exact hk), fillTo_get p hk]
  · rw [List.getElem?_set_ne (fun e => hi e.symm)]

/-- The blocks of a cargo, one by one. -/
theorem cutF_get {K : Nat} (hK : 1 ≤ K) : ∀ f c i, c.length ≤ f → i * K < c.length → (cutF K f c)[i]? = some (padTo K ((c.drop (i * K)).take K))
  | 0, c, i, h, hi => by omega
  | f + 1, c, 0, h, hi => by rw [cutF, if_neg (by omega)]; simp
  | f + 1, c, i + 1, h, hi => by
    rw [Nat.add_mul, Nat.one_mul] at hi
    rw [cutF, if_neg (by omega), List.getElem?_cons_succ, cutF_get hK f (c.drop K) i (by rw [List.length_drop]; omega) (by rw [List.length_drop]; omega), List.drop_drop, Nat.add_mul, Nat.one_mul, Nat.add_comm K]
theorem padTo_get {K k : Nat} {c : List UInt8} (h : k < K) (hc : c.length ≤ K) : (padTo K c)[k]? = some (c.getD k 0) := by
  unfold padTo
  by_cases hk : k < c.length
  · rw [List.getElem?_append_left hk, List.getElem?_eq_getElem hk]; simp [hk]
  · rw [List.getElem?_append_right (by omega), List.getElem?_replicate, if_pos (by omega)]; simp [List.getElem?_eq_none (show c.length ≤ k by omega)]
theorem cut_count {n K : Nat} {c : List UInt8} (hck : cutCheck n K = 0) (hl : c.length = n) {m : Nat} (hm : (m : Int) = blocksOf n K) : (cutF K n c).length = m ∧ ∀ i, i < m → i * K < n := by
  obtain ⟨⟨h1, h2⟩, ⟨h3, h4⟩, _, _, h5⟩ := cutCheck_ok hck
  have hK : 1 ≤ K := by omega
  have e : m = (n - 1) / K + 1 := by
    have : ((n : Int) - 1) / K = (((n - 1) / K : Nat) : Int) := by
      rw [show ((n : Int) - 1) = ((n - 1 : Nat) : Int) from by omega]; simp
    omega
  refine ⟨?_, fun i hi => ?_⟩
  · rw [cutF_length hK n c (by omega), hl, e, show n + K - 1 = (n - 1) + K from by omega, Nat.add_div_right _ (by omega)]
  · have : i ≤ (n - 1) / K := by omega
    have := (Nat.le_div_iff_mul_le (by omega)).1 this
    omega

end Go.Proofs.YtbincgbgeccccaaGreatDoor
