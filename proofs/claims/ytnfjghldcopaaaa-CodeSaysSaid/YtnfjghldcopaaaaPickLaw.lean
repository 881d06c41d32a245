/- The walk of PickSome. No condition. -/
import Derived.Test.YtnfjghldcopaaaaPick
import Derived.Test.YtnfjghldcopaaaaEq
set_option linter.unusedSimpArgs false
set_option linter.unusedVariables false
namespace Go.Proofs.Ytnfjghldcopaaaa
open Go.RowKit

set_option maxHeartbeats 1000000 in
theorem picked_any (w : World) : Calls Try.prog 31 #[] w fun e w' => e = .returned (.bool true) ∧ Fr w w' := by
  have E1 : Hid (pickOf 1 3 = ([false, true, false], 0)) := by unfold Hid; decide +kernel
  have E2 : Hid ((pickOf 7 3).2 = 0 ∧ (pickOf 7 3).1.length = 3 ∧ cnt (pickOf 7 3).1 = 2) := by unfold Hid; decide +kernel
  obtain ⟨X, hX⟩ : ∃ X, X = (pickOf 7 3).1 := ⟨_, rfl⟩
  have E3 : Hid (pickOf 7 3 = (X, 0)) := by rw [Hid, hX, ← E2.out.1]
  have E4 : Hid (X.length = 3 ∧ cnt X = 2) := by rw [Hid, hX]; exact E2.out.2
  clear hX
  go_enter Try.func31, Try.ntmps31
  go_wp2_with fail
  refine (pickOf_any _ _ _).mono ?_
  rw [E1.out]
  rintro e w1 ⟨A1, n1, c1, rfl, hn1, _, hs1, hf1⟩
  obtain rfl : n1 = 3 := hs1.1.symm
  (have Hs1 := Lib.hid hs1; clear hs1; have Hf1 := Lib.hid hf1; clear hf1)
  go_wp2_with fail
  refine (pickOf_any _ _ _).mono ?_
  rw [E3.out]
  rintro e w2 ⟨A2, n2, c2, rfl, hn2, _, hs2, hf2⟩
  obtain rfl : n2 = 3 := by rw [← hs2.1]; exact E4.out.1
  (have Hs2 := Lib.hid hs2; clear hs2; have Hf2 := Lib.hid hf2; clear hf2)
  go_wp2_with fail
  go_loop [5, 18] (fun n i => ∃ k : Nat, k ≤ 3 ∧ i = .int .i64 k ∧ n = .int .i64 (cnt (X.take k) : Nat)) (fun _ i => 3 - (intOf i).toNat)
  case atStart => exact ⟨0, Nat.zero_le _, rfl, rfl⟩
  case round =>
    obtain ⟨k, hk, rfl, rfl⟩ := hrel
    by_cases hlt : k < 3
    · obtain ⟨ad, rfl, hE⟩ := Hs2.out.els (by omega)
      obtain ⟨b, hb, hc⟩ := hE.bool hlt
      have HC := Lib.hid (cnt_take hb)
      have hcl : cnt (X.take k) ≤ 3 := Nat.le_trans (cnt_le _) (by rw [List.length_take]; omega)
      obtain ⟨q, hq⟩ : ∃ q, q = cnt (X.take k) := ⟨_, rfl⟩
      rw [← hq] at hcl
      rw [← hq]
      have HQ := Lib.hid hq
      clear hb hq
      cases b
      all_goals
        go_wp2
        go_round
        case rel => exact ⟨k + 1, by omega, by go_num, by rw [HC.out, ← HQ.out]; go_num⟩
        case measure => simp [intOf]; omega
    · obtain rfl : k = 3 := by omega
      have hq : Hid (cnt (X.take 3) = 2) := by rw [Hid, List.take_of_length_le (by rw [E4.out.1]; omega)]; exact E4.out.2
      rw [hq.out]
      go_wp2_with fail
      refine (equalBools_any _ _ Any _ _ _ _ _ _ [false, true, false] [false, true, false] (Hs1.out.go sBool (by (repeat' (first | exact Below.refl _ _ | refine below_drewN ?_ _ | refine Below.drew ?_ | refine frA ?_ _ | refine Fr.trans ?_ Hf3.out | refine Fr.trans ?_ Hf2.out | refine Fr.trans ?_ Hf1.out)))) ?_ (by decide)).mono ?_
      · apply Sl.litBools (hS := trivial) (hn := rfl)
        · (repeat' (first | (refine heap_new ?_; (first | (simp; done) | rfl); done) | refine heap_dn ?_ | refine heap_d ?_ | refine heap_old ?_))
        · rfl
      · rintro e w3 ⟨rfl, m, rfl⟩
        go_wp2_with fail
        go_ret
        exact ⟨rfl, (by (repeat' (first | exact Below.refl _ _ | refine below_drewN ?_ _ | refine Below.drew ?_ | refine frA ?_ _ | refine Fr.trans ?_ Hf3.out | refine Fr.trans ?_ Hf2.out | refine Fr.trans ?_ Hf1.out)))⟩

end Go.Proofs.Ytnfjghldcopaaaa
