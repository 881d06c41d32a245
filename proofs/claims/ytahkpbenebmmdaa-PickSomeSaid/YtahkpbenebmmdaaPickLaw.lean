/- The walk of PickSome. No condition. -/
import Derived.Test.YtahkpbenebmmdaaPick
import Derived.Test.YtahkpbenebmmdaaEq
set_option linter.unusedSimpArgs false
set_option linter.unusedVariables false
namespace Go.Proofs.Ytahkpbenebmmdaa
open Go.RowKit

theorem cnt_take {l : List Bool} {k : Nat} {b : Bool} (h : l[k]? = some b) : cnt (l.take (k + 1)) = cnt (l.take k) + if b then 1 else 0 := by
  rw [take_snoc' h]
  cases b <;> simp [cnt]
theorem cnt_le (l : List Bool) : cnt l ≤ l.length := List.countP_le_length

set_option maxHeartbeats 1000000 in
theorem picked_any (w : World) : Calls Try.prog 24 #[] w fun e w' => e = .returned (.bool true) ∧ Fr w w' := by
  have E1 : Hid (pickOf 1 3 = ([false, true, false], 0)) := by unfold Hid; decide +kernel
  have E2 : Hid ((pickOf 7 3).2 = 0 ∧ (pickOf 7 3).1.length = 3 ∧ cnt (pickOf 7 3).1 = 2) := by unfold Hid; decide +kernel
  obtain ⟨X, hX⟩ : ∃ X, X = (pickOf 7 3).1 := ⟨_, rfl⟩
  have E3 : Hid (pickOf 7 3 = (X, 0)) := by rw [Hid, hX, ← E2.out.1]
  have E4 : Hid (X.length = 3 ∧ cnt X = 2) := by rw [Hid, hX]; exact E2.out.2
  clear hX
  go_enter Try.func24, Try.ntmps24
  go_wp2_with fail
  refine (pickOf_any _ _ _).mono ?_
  rw [E1.out]
  rintro e w1 ⟨A1, n1, c1, rfl, hn1, _, hs1, hf1⟩
  obtain rfl : n1 = 3 := hs1.1.symm
  (have Hs1 := Lib.hid hs1; clear hs1; have Hf1 := Lib.hid hf1; clear hf1)
  go_wp2_with fail
  refine (pickOf_any _ _ _).mono ?_
  rw [E3.out]
  rintro e w2 ⟨A2, n2, c2, rfl, hn2, _, hs2, hf2⟩
  obtain rfl : n2 = 3 := by rw [← hs2.1]; exact E4.out.1
  (have Hs2 := Lib.hid hs2; clear hs2; have Hf2 := Lib.hid hf2; clear hf2)
  go_wp2_with fail
  go_loop [5, 18] (fun n i => ∃ k : Nat, k ≤ 3 ∧ i = .int .i64 k ∧ n = .int .i64 (cnt (X.take k) : Nat)) (fun _ i => 3 - (intOf i).toNat)
  case atStart => exact ⟨0, Nat.zero_le _, rfl, rfl⟩
  case round =>
    obtain ⟨k, hk, rfl, rfl⟩ := hrel
    by_cases hlt : k < 3
    · obtain ⟨ad, rfl, hE⟩ := Hs2.out.els (by omega)
      obtain ⟨b, hb, hc⟩ := hE.bool hlt
      have HC := Lib.hid (cnt_take hb)
      have hcl : cnt (X.take k) ≤ 3 := Nat.le_trans (cnt_le _) (by rw [List.length_take]; omega)
      obtain ⟨q, hq⟩ : ∃ q, q = cnt (X.take k) := ⟨_, rfl⟩
      rw [← hq] at hcl
      rw [← hq]
      have HQ := Lib.hid hq
      clear hb hq
      cases b
      all_goals
        go_wp2
        go_round
        case rel => exact ⟨k + 1, by omega, by go_num, by rw [HC.out, ← HQ.out]; go_num⟩
        case measure => simp [intOf]; omega
    · obtain rfl : k = 3 := by omega
      have hq : Hid (cnt (X.take 3) = 2) := by rw [Hid, List.take_of_length_le (by rw [E4.out.1]; omega)]; exact E4.out.2
      rw [hq.out]
      go_wp2_with fail
      refine (equalBools_any _ _ Any _ _ _ _ _ _ [false, true, false] [false, true, false] (Hs1.out.go sBool (by (repeat' (first | exact Below.refl _ _ | refine below_drewN ?_ _ | refine Below.drew ?_ | refine frA ?_ _ | refine Fr.trans ?_ Hf3.out | refine Fr.trans ?_ Hf2.out | refine Fr.trans ?_ Hf1.out)))) ?_ (by decide)).mono ?_
      · apply Sl.litBools (hS := trivial) (hn := rfl)
        · (repeat' (first | (refine heap_new ?_; (first | (simp; done) | rfl); done) | refine heap_dn ?_ | refine heap_d ?_ | refine heap_old ?_))
        · rfl
      · rintro e w3 ⟨rfl, m, rfl⟩
        go_wp2_with fail
        go_ret
        exact ⟨rfl, (by (repeat' (first | exact Below.refl _ _ | refine below_drewN ?_ _ | refine Below.drew ?_ | refine frA ?_ _ | refine Fr.trans ?_ Hf3.out | refine Fr.trans ?_ Hf2.out | refine Fr.trans ?_ Hf1.out)))⟩

set_option maxHeartbeats 1000000 in
theorem pickSome_any (w : World) (id : Int) (wi : wfI id) (many : Int) (wm : wfI many) :
    Calls Try.prog 5 #[.int .i64 id, .int .i64 many] w fun e w' => e = .returned (.bool true) ∧ Fr w w' := by
  by_cases h : 0 ≤ id ∧ id ≤ 9999 ∧ 1 ≤ many ∧ many ≤ 24
  · obtain ⟨i, rfl⟩ := Int.eq_ofNat_of_zero_le h.1
    obtain ⟨m, rfl⟩ := Int.eq_ofNat_of_zero_le (show 0 ≤ many by omega)
    obtain ⟨X, hX⟩ : ∃ X, X = pickHas i m := ⟨_, rfl⟩
    have E : Hid (pickOf i m = (X, 0)) := by rw [Hid, hX]; exact if_pos h
    have hXl : Hid (X.length = m) := by rw [Hid, hX]; exact length_pickHas i m
    obtain ⟨hc1, hc2⟩ := cnt_pickHas i m (by omega) (by omega)
    rw [← hX] at hc1 hc2
    have hm : 1 ≤ m ∧ m ≤ 24 := by omega
    obtain ⟨hm1, hm2⟩ := hm
    (have HX := Lib.hid hX; clear hX; have H := Lib.hid h; clear h; have Hc1 := Lib.hid hc1; clear hc1; have Hc2 := Lib.hid hc2; clear hc2)
    clear wi wm
    go_enter Try.func5, Try.ntmps5
    go_wp2_with fail
    refine (pickOf_any _ _ _).mono ?_
    rw [E.out]
    rintro e w1 ⟨A1, n1, c1, rfl, _, _, hs1, hf1⟩
    obtain rfl : n1 = m := hs1.1.symm.trans hXl.out
    (have Hs1 := Lib.hid hs1; clear hs1; have Hf1 := Lib.hid hf1; clear hf1)
    go_wp2_with fail
    refine (pickOf_any _ _ _).mono ?_
    rw [E.out]
    rintro e w2 ⟨A2, n2, c2, rfl, _, _, hs2, hf2⟩
    obtain rfl : n2 = n1 := hs2.1.symm.trans hXl.out
    (have Hs2 := Lib.hid hs2; clear hs2; have Hf2 := Lib.hid hf2; clear hf2)
    go_wp2_with fail
    refine (picked_any _).mono ?_
    rintro e w3 ⟨rfl, hf3⟩
    have hs1' := Hs1.out.go sBool (Hf2.out.trans hf3)
    (have Hf3 := Lib.hid hf3; clear hf3; have Hs1' := Lib.hid hs1'; clear hs1')
    go_wp2_with fail
    go_loop [9, 38] (fun n i => ∃ k : Nat, k ≤ n2 ∧ i = .int .i64 k ∧ n = .int .i64 (cnt (X.take k) : Nat)) (fun _ i => n2 - (intOf i).toNat)
    case atStart => exact ⟨0, Nat.zero_le _, rfl, rfl⟩
    case round =>
      obtain ⟨k, hk, rfl, rfl⟩ := hrel
      by_cases hlt : k < n2
      · obtain ⟨ad, rfl, hE⟩ := Hs1'.out.els (by omega)
        obtain ⟨b, hb, hc⟩ := hE.bool hlt
        have HC := Lib.hid (cnt_take hb)
        have hcl : cnt (X.take k) ≤ n2 := Nat.le_trans (cnt_le _) (by rw [List.length_take]; omega)
        obtain ⟨q, hq⟩ : ∃ q, q = cnt (X.take k) := ⟨_, rfl⟩
        rw [← hq] at hcl
        rw [← hq]
        have HQ := Lib.hid hq
        clear hb hq
        cases b
        all_goals
          go_wp2
          go_round
          case rel => exact ⟨k + 1, by omega, by go_num, by rw [HC.out, ← HQ.out]; go_num⟩
          case measure => simp [intOf]; omega
      · obtain rfl : k = n2 := by omega
        have hq : Hid (cnt (X.take k) = cnt X) := by rw [Hid, List.take_of_length_le (by rw [hXl.out]; omega)]
        rw [hq.out]
        obtain ⟨q, hq2⟩ : ∃ q, q = cnt X := ⟨_, rfl⟩
        rw [← hq2]
        have hq1 : (0 : Int) < q := by have := Hc1.out; omega
        by_cases hib : i < k
        · obtain ⟨hq3, hq4⟩ := Hc2.out hib
          obtain rfl : q = 1 := hq2.trans hq3
          obtain ⟨ad, rfl, hE⟩ := Hs1'.out.els (by omega)
          obtain ⟨b, hb, hc⟩ := hE.bool hib
          obtain rfl : b = true := by rw [hq4] at hb; injection hb with hb; exact hb.symm
          have hge : decide ((k : Int) ≤ (i : Int)) = false := by simp; omega
          clear hq3 hq4 hb hq2 hE
          go_wp2_with fail
          refine (equalBools_any _ _ _ _ _ _ _ _ _ _ _ Hs1'.out (Hs2.out.go sBool (by (repeat' (first | exact Below.refl _ _ | refine below_drewN ?_ _ | refine Below.drew ?_ | refine frA ?_ _ | refine Fr.trans ?_ Hf3.out | refine Fr.trans ?_ Hf2.out | refine Fr.trans ?_ Hf1.out)))) (by unfold maxLen; omega)).mono ?_
          rintro e w4 ⟨rfl, m, rfl⟩
          go_wp2_with fail
          go_ret
          exact ⟨rfl, (by (repeat' (first | exact Below.refl _ _ | refine below_drewN ?_ _ | refine Below.drew ?_ | refine frA ?_ _ | refine Fr.trans ?_ Hf3.out | refine Fr.trans ?_ Hf2.out | refine Fr.trans ?_ Hf1.out)))⟩
        · have hge : decide ((k : Int) ≤ (i : Int)) = true := by simp; omega
          clear hq2
          go_wp2_with fail
          refine (equalBools_any _ _ _ _ _ _ _ _ _ _ _ Hs1'.out (Hs2.out.go sBool (by (repeat' (first | exact Below.refl _ _ | refine below_drewN ?_ _ | refine Below.drew ?_ | refine frA ?_ _ | refine Fr.trans ?_ Hf3.out | refine Fr.trans ?_ Hf2.out | refine Fr.trans ?_ Hf1.out)))) (by unfold maxLen; omega)).mono ?_
          rintro e w4 ⟨rfl, m, rfl⟩
          go_wp2_with fail
          go_ret
          exact ⟨rfl, (by (repeat' (first | exact Below.refl _ _ | refine below_drewN ?_ _ | refine Below.drew ?_ | refine frA ?_ _ | refine Fr.trans ?_ Hf3.out | refine Fr.trans ?_ Hf2.out | refine Fr.trans ?_ Hf1.out)))⟩
  · have E : Hid (pickOf id many = ([], 3)) := if_neg h
    clear h wi wm
    go_enter Try.func5, Try.ntmps5
    go_wp2_with fail
    refine (pickOf_any _ _ _).mono ?_
    rw [E.out]
    rintro e w1 ⟨A1, n1, c1, rfl, _, _, hs1, hf1⟩
    (have Hs1 := Lib.hid hs1; clear hs1; have Hf1 := Lib.hid hf1; clear hf1)
    go_wp2_with fail
    refine (pickOf_any _ _ _).mono ?_
    rw [E.out]
    rintro e w2 ⟨A2, n2, c2, rfl, _, _, hs2, hf2⟩
    (have Hs2 := Lib.hid hs2; clear hs2; have Hf2 := Lib.hid hf2; clear hf2)
    go_wp2_with fail
    refine (picked_any _).mono ?_
    rintro e w3 ⟨rfl, hf3⟩
    (have Hf3 := Lib.hid hf3; clear hf3)
    go_wp2_with fail
    refine (picked_any _).mono ?_
    rintro e w4 ⟨rfl, hf4⟩
    (have Hf4 := Lib.hid hf4; clear hf4)
    go_wp2_with fail
    go_ret
    exact ⟨rfl, (by (repeat' (first | exact Below.refl _ _ | refine below_drewN ?_ _ | refine Below.drew ?_ | refine frA ?_ _ | refine Fr.trans ?_ Hf4.out | refine Fr.trans ?_ Hf3.out | refine Fr.trans ?_ Hf2.out | refine Fr.trans ?_ Hf1.out)))⟩
end Go.Proofs.Ytahkpbenebmmdaa
