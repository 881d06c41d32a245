/- 'PickSays', walked. No condition. -/
import Derived.Test.YtnfjghldcopaaaaRPick
import Derived.Test.YtnfjghldcopaaaaPickLaw
set_option linter.unusedSimpArgs false
set_option linter.unusedVariables false
namespace Go.Proofs.Ytnfjghldcopaaaa
open Go.RowKit
attribute [local irreducible] wpList

set_option maxHeartbeats 400000 in
theorem refPicked_any (w : World) (id b : Int) :
    Calls Try.prog 30 #[.int .i64 id, .int .i64 b] w fun e w' => ∃ A n c, e = .returned (.tuple #[.slice A n c, .int .i64 (pickedR id b).2]) ∧ (n ≤ c ∧ c ≤ maxLen) ∧ Sl 1 eInt w' (LT w'.heap.size) A n (pickedR id b).1 ∧ Fr w w' := by
  by_cases h : 0 ≤ id ∧ id ≤ 9999 ∧ 1 ≤ b ∧ b ≤ 24
  · have E : pickedR id b = (selIdx (pickHas id.toNat b.toNat), 0) := if_pos h
    rw [E]
    obtain ⟨i, rfl⟩ := Int.eq_ofNat_of_zero_le h.1
    obtain ⟨m, rfl⟩ := Int.eq_ofNat_of_zero_le (show 0 ≤ b by omega)
    simp only [Int.toNat_natCast]
    by_cases hlt : i < m
    · have r1 : inR i 0 9999 = true := inR_t (by omega)
      have r2 : inR m 1 24 = true := inR_t (by omega)
      have e1 : selIdx (pickHas i m) = [(i : Int)] := by unfold pickHas; rw [if_pos hlt]; exact selIdx_one hlt
      have hwi : wfI (i : Int) := wfI.mk (by omega)
      rw [e1]
      clear E e1
      (have Hwi := Lib.hid hwi; clear hwi)
      go_enter Try.func30, Try.ntmps30
      go_wp2_with (go_at_call 61; refine (in_any _ _ _ _).mono ?_; rintro e w' ⟨rfl, rfl⟩)
      go_ret2
      refine ⟨_, _, _, rfl, ⟨Nat.le_refl _, by unfold maxLen; omega⟩, Sl.litInts (heap_new rfl) (by simp [LT]) rfl ?_ rfl, frAlloc _ _⟩
      intro x hx
      obtain rfl : x = (i : Int) := by simpa using hx
      exact Hwi.out
    · exact refPicked_more w i m (by omega) (by omega) (by omega) (by omega)
  · have E : pickedR id b = ([], 3) := if_neg h
    rw [E]
    by_cases h1 : 0 ≤ id ∧ id ≤ 9999
    · have r1 : inR id 0 9999 = true := inR_t h1
      have r2 : inR b 1 24 = false := inR_f (by omega)
      clear E h h1
      go_enter Try.func30, Try.ntmps30
      go_wp2_with (go_at_call 61; refine (in_any _ _ _ _).mono ?_; rintro e w' ⟨rfl, rfl⟩)
      go_ret2
      exact ⟨_, _, _, rfl, ⟨Nat.le_refl _, by unfold maxLen; omega⟩, Sl.nil, Below.refl _ _⟩
    · have r1 : inR id 0 9999 = false := inR_f h1
      clear E h h1
      go_enter Try.func30, Try.ntmps30
      go_wp2_with (go_at_call 61; refine (in_any _ _ _ _).mono ?_; rintro e w' ⟨rfl, rfl⟩)
      go_ret2
      exact ⟨_, _, _, rfl, ⟨Nat.le_refl _, by unfold maxLen; omega⟩, Sl.nil, Below.refl _ _⟩

theorem picked_has {X : List Bool} {k : Nat} {b : Bool} (h : X[k]? = some b) : decide ((k : Int) ∈ selIdx X) = b := by
  have hk := (List.getElem?_eq_some_iff.1 h).1
  have h1 := (Sel.idx X).iff k hk
  rw [List.getD_eq_getElem?_getD, h] at h1
  cases b
  · simp at h1; simpa using h1
  · simp at h1; simpa using h1

set_option maxHeartbeats 400000 in
theorem pickSays_any (w : World) (id : Int) (wi : wfI id) (many : Int) (wm : wfI many) :
    Calls Try.prog 6 #[.int .i64 id, .int .i64 many] w fun e w' => e = .returned (.bool true) ∧ Fr w w' := by
  by_cases h : 0 ≤ id ∧ id ≤ 9999 ∧ 1 ≤ many ∧ many ≤ 24
  · obtain ⟨i, rfl⟩ := Int.eq_ofNat_of_zero_le h.1
    obtain ⟨m, rfl⟩ := Int.eq_ofNat_of_zero_le (show 0 ≤ many by omega)
    obtain ⟨X, hX⟩ : ∃ X, X = pickHas i m := ⟨_, rfl⟩
    have E : Hid (pickOf i m = (X, 0)) := by rw [Hid, hX]; exact if_pos h
    have E2 : Hid (pickedR i m = (selIdx X, 0)) := by rw [Hid, hX]; exact if_pos h
    have hXl : Hid (X.length = m) := by rw [Hid, hX]; exact length_pickHas i m
    have hm : 1 ≤ m ∧ m ≤ 24 := by omega
    obtain ⟨hm1, hm2⟩ := hm
    (have HX := Lib.hid hX; clear hX; have H := Lib.hid h; clear h)
    clear wi wm
    go_enter Try.func6, Try.ntmps6
    go_wp2_with fail
    (with_reducible refine (pickOf_any _ _ _).mono ?_)
    rw [E.out]
    rintro e w1 ⟨A1, n1, c1, rfl, _, _, hs1, hf1⟩
    obtain rfl : n1 = m := hs1.1.symm.trans hXl.out
    (have Hs1 := Lib.hid hs1; clear hs1; have Hf1 := Lib.hid hf1; clear hf1)
    go_wp2_with fail
    (with_reducible refine (refPicked_any _ _ _).mono ?_)
    rw [E2.out]
    rintro e w2 ⟨A2, n2, c2, rfl, ⟨hc2, hx2⟩, hs2, hf2⟩
    (have Hs2 := Lib.hid hs2; clear hs2; have Hf2 := Lib.hid hf2; clear hf2)
    go_wp2_with fail
    (with_reducible refine (picked_any _).mono ?_)
    rintro e w3 ⟨rfl, hf3⟩
    have hs1' := Hs1.out.go sBool (Hf2.out.trans hf3)
    have hs2' := Hs2.out.go sInt hf3
    have hn2 : n2 ≤ maxLen := by omega
    (have Hf3 := Lib.hid hf3; clear hf3; have Hs1' := Lib.hid hs1'; clear hs1'; have Hs2' := Lib.hid hs2'; clear hs2')
    go_wp2_with fail
    go_loop [51] (fun i => ∃ k : Nat, k ≤ n1 ∧ i = .int .i64 k) (fun i => n1 - (intOf i).toNat)
    case atStart => exact ⟨0, Nat.zero_le _, rfl⟩
    case round =>
      obtain ⟨k, hk, rfl⟩ := hrel
      by_cases hlt : k < n1
      · obtain ⟨ad, rfl, hE⟩ := Hs1'.out.els (by omega)
        obtain ⟨b, hb, hc⟩ := hE.bool hlt
        have HD := Lib.hid (picked_has hb)
        clear hb
        go_wp2_with fail
        (with_reducible refine (containsInt_any _ _ _ _ _ (selIdx X) (k : Int) Hs2'.out hn2).mono ?_)
        rw [HD.out]
        rintro e w4 ⟨rfl, rfl⟩
        cases b
        all_goals
          go_wp2_with fail
          go_round
          case rel => exact ⟨k + 1, by omega, by go_num⟩
          case measure => simp [intOf]; omega
      · obtain rfl : k = n1 := by omega
        go_wp2_with fail
        go_ret
        exact ⟨rfl, (by (repeat' (first | exact Below.refl _ _ | refine below_drewN ?_ _ | refine Below.drew ?_ | refine frA ?_ _ | refine Fr.trans ?_ Hf3.out | refine Fr.trans ?_ Hf2.out | refine Fr.trans ?_ Hf1.out)))⟩
  · have E : Hid (pickOf id many = ([], 3)) := if_neg h
    have E2 : Hid (pickedR id many = ([], 3)) := if_neg h
    clear h wi wm
    go_enter Try.func6, Try.ntmps6
    go_wp2_with fail
    (with_reducible refine (pickOf_any _ _ _).mono ?_)
    rw [E.out]
    rintro e w1 ⟨A1, n1, c1, rfl, _, _, hs1, hf1⟩
    obtain rfl : n1 = 0 := hs1.1.symm
    (have Hs1 := Lib.hid hs1; clear hs1; have Hf1 := Lib.hid hf1; clear hf1)
    go_wp2_with fail
    (with_reducible refine (refPicked_any _ _ _).mono ?_)
    rw [E2.out]
    rintro e w2 ⟨A2, n2, c2, rfl, ⟨hc2, hx2⟩, hs2, hf2⟩
    (have Hs2 := Lib.hid hs2; clear hs2; have Hf2 := Lib.hid hf2; clear hf2)
    go_wp2_with fail
    (with_reducible refine (picked_any _).mono ?_)
    rintro e w3 ⟨rfl, hf3⟩
    (have Hf3 := Lib.hid hf3; clear hf3)
    go_wp2_with fail
    (with_reducible refine (picked_any _).mono ?_)
    rintro e w4 ⟨rfl, hf4⟩
    (have Hf4 := Lib.hid hf4; clear hf4)
    go_wp2_with fail
    go_ret
    exact ⟨rfl, (by (repeat' (first | exact Below.refl _ _ | refine below_drewN ?_ _ | refine Below.drew ?_ | refine frA ?_ _ | refine Fr.trans ?_ Hf4.out | refine Fr.trans ?_ Hf3.out | refine Fr.trans ?_ Hf2.out | refine Fr.trans ?_ Hf1.out)))⟩
end Go.Proofs.Ytnfjghldcopaaaa
