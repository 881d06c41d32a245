/- Contracts of slices.Equal at bytes, ints, bools. No condition. -/
import Derived.Test.YtbincgbgeccccaaGreatDoorBase
set_option linter.unusedSimpArgs false
set_option linter.unusedVariables false
namespace Go.Proofs.YtbincgbgeccccaaGreatDoor
open Go.RowKit

theorem drop_eq_cons {α : Type} [DecidableEq α] {xs ys : List α} {k : Nat} {a b : α} (ha : xs[k]? = some a) (hb : ys[k]? = some b) (h : decide (xs = ys) = decide (xs.drop k = ys.drop k)) :
    decide (xs = ys) = (decide (a = b) && decide (xs.drop (k + 1) = ys.drop (k + 1))) := by
  rw [h, drop_cons ha, drop_cons hb]
  by_cases hab : a = b <;> simp [hab]


set_option maxHeartbeats 400000 in
theorem equalBlock_any (w : World) (S T : Nat → Prop) (A A' : Option Addr) (n c n' c' : Nat) (xs ys : List UInt8) (h : Sl 1 eByte w S A n xs) (h' : Sl 1 eByte w T A' n' ys) (hm : n ≤ maxLen) :
    Calls Tryz.prog 26 #[.slice A n c, .slice A' n' c'] w fun e w' => e = .returned (.bool (decide (xs = ys))) ∧ ∃ m, w' = w.drewN m := by
  unfold maxLen at hm
  have H := Lib.hid h
  have H' := Lib.hid h'
  clear h h'
  by_cases hn : n = n'
  · have hne : ((n : Int) != (n' : Int)) = false := by simp [hn]
    have HN : Hid (n = n') := hn
    clear hn
    go_enter Tryz.func26, Tryz.ntmps26
    go_wp2
    go_loopw [13] (fun i wr => ∃ k m : Nat, k ≤ n ∧ i = .int .i64 k ∧ wr = w.drewN m ∧ Hid (decide (xs = ys) = decide (xs.drop k = ys.drop k))) (fun i _ => n - (intOf i).toNat)
    case atStart => exact ⟨0, 0, Nat.zero_le _, rfl, rfl, rfl⟩
    case round =>
      obtain ⟨k, m, hk, rfl, rfl, HS⟩ := hrel
      by_cases hlt : k < n
      · have hlt' : k < n' := HN.out ▸ hlt
        obtain ⟨ad, rfl, hE⟩ := H.out.els (by omega)
        obtain ⟨ad', rfl, hE'⟩ := H'.out.els (by omega)
        obtain ⟨a, ha, hca⟩ := hE.byte hlt
        obtain ⟨b, hb, hcb⟩ := hE'.byte hlt'
        have HS' : Hid (decide (xs = ys) = (decide (a = b) && decide (xs.drop (k + 1) = ys.drop (k + 1)))) := drop_eq_cons ha hb HS.out
        clear HS ha hb
        by_cases hab : a = b
        · subst hab
          go_wp2
          go_quiet (fail)
          go_wp2
          go_roundw
          case rel => exact ⟨k + 1, _, by omega, by go_num, rfl, by rw [Hid, HS'.out]; simp⟩
          case measure => simp [intOf]; omega
        · have hab' : ((a.toNat : Int) == (b.toNat : Int)) = false := by
            rw [beq_eq_false_iff_ne]; intro e; exact hab (UInt8.toNat_inj.1 (by omega))
          have hab2 : ((a.toNat : Int) != (b.toNat : Int)) = true := by
            rw [bne_iff_ne]; intro e; exact hab (UInt8.toNat_inj.1 (by omega))
          go_wp2
          go_quiet (fail)
          go_wp2
          go_ret
          exact ⟨retB (by rw [HS'.out]; simp [hab]), drew2 _ _ _⟩
      · have HF : Hid (decide (xs = ys) = true) := by
          have h1 := H.out.1
          have h2 := H'.out.1
          rw [Hid, HS.out, List.drop_eq_nil_of_le (by omega), List.drop_eq_nil_of_le (by have := HN.out; omega)]; rfl
        go_wp2
        go_ret
        exact ⟨retB HF.out.symm, _, rfl⟩
  · have hne : ((n : Int) != (n' : Int)) = true := by rw [bne_iff_ne]; omega
    have HF : Hid (decide (xs = ys) = false) := by
      rw [Hid, decide_eq_false_iff_not]; rintro rfl; exact hn (H.out.1.symm.trans H'.out.1)
    go_enter Tryz.func26, Tryz.ntmps26
    go_wp2
    go_ret
    exact ⟨retB HF.out.symm, 0, rfl⟩
set_option maxHeartbeats 400000 in
theorem equalBytes_any (w : World) (S T : Nat → Prop) (A A' : Option Addr) (n c n' c' : Nat) (xs ys : List UInt8) (h : Sl 1 eByte w S A n xs) (h' : Sl 1 eByte w T A' n' ys) (hm : n ≤ maxLen) :
    Calls Tryz.prog 23 #[.slice A n c, .slice A' n' c'] w fun e w' => e = .returned (.bool (decide (xs = ys))) ∧ ∃ m, w' = w.drewN m := by
  unfold maxLen at hm
  have H := Lib.hid h
  have H' := Lib.hid h'
  clear h h'
  by_cases hn : n = n'
  · have hne : ((n : Int) != (n' : Int)) = false := by simp [hn]
    have HN : Hid (n = n') := hn
    clear hn
    go_enter Tryz.func23, Tryz.ntmps23
    go_wp2
    go_loopw [13] (fun i wr => ∃ k m : Nat, k ≤ n ∧ i = .int .i64 k ∧ wr = w.drewN m ∧ Hid (decide (xs = ys) = decide (xs.drop k = ys.drop k))) (fun i _ => n - (intOf i).toNat)
    case atStart => exact ⟨0, 0, Nat.zero_le _, rfl, rfl, rfl⟩
    case round =>
      obtain ⟨k, m, hk, rfl, rfl, HS⟩ := hrel
      by_cases hlt : k < n
      · have hlt' : k < n' := HN.out ▸ hlt
        obtain ⟨ad, rfl, hE⟩ := H.out.els (by omega)
        obtain ⟨ad', rfl, hE'⟩ := H'.out.els (by omega)
        obtain ⟨a, ha, hca⟩ := hE.byte hlt
        obtain ⟨b, hb, hcb⟩ := hE'.byte hlt'
        have HS' : Hid (decide (xs = ys) = (decide (a = b) && decide (xs.drop (k + 1) = ys.drop (k + 1)))) := drop_eq_cons ha hb HS.out
        clear HS ha hb
        by_cases hab : a = b
        · subst hab
          go_wp2
          go_quiet (fail)
          go_wp2
          go_roundw
          case rel => exact ⟨k + 1, _, by omega, by go_num, rfl, by rw [Hid, HS'.out]; simp⟩
          case measure => simp [intOf]; omega
        · have hab' : ((a.toNat : Int) == (b.toNat : Int)) = false := by
            rw [beq_eq_false_iff_ne]; intro e; exact hab (UInt8.toNat_inj.1 (by omega))
          have hab2 : ((a.toNat : Int) != (b.toNat : Int)) = true := by
            rw [bne_iff_ne]; intro e; exact hab (UInt8.toNat_inj.1 (by omega))
          go_wp2
          go_quiet (fail)
          go_wp2
          go_ret
          exact ⟨retB (by rw [HS'.out]; simp [hab]), drew2 _ _ _⟩
      · have HF : Hid (decide (xs = ys) = true) := by
          have h1 := H.out.1
          have h2 := H'.out.1
          rw [Hid, HS.out, List.drop_eq_nil_of_le (by omega), List.drop_eq_nil_of_le (by have := HN.out; omega)]; rfl
        go_wp2
        go_ret
        exact ⟨retB HF.out.symm, _, rfl⟩
  · have hne : ((n : Int) != (n' : Int)) = true := by rw [bne_iff_ne]; omega
    have HF : Hid (decide (xs = ys) = false) := by
      rw [Hid, decide_eq_false_iff_not]; rintro rfl; exact hn (H.out.1.symm.trans H'.out.1)
    go_enter Tryz.func23, Tryz.ntmps23
    go_wp2
    go_ret
    exact ⟨retB HF.out.symm, 0, rfl⟩
end Go.Proofs.YtbincgbgeccccaaGreatDoor
