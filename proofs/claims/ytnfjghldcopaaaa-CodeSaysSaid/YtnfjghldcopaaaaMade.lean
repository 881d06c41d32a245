/- slices.Index and Contains at bytes, and the closed fact on symbols. No condition. -/
import Derived.Test.YtnfjghldcopaaaaCode
import Derived.Test.YtnfjghldcopaaaaEq
set_option linter.unusedSimpArgs false
set_option linter.unusedVariables false
namespace Go.Proofs.Ytnfjghldcopaaaa
open Go.RowKit

set_option maxHeartbeats 400000 in
/-- Is a byte among others? -/
theorem containsBytes_any (w : World) (S : Nat → Prop) (A : Option Addr) (n c : Nat) (l : List UInt8) (x : UInt8) (h : Sl 1 eByte w S A n l) (hm : n ≤ lim) (hx : x ∈ l) :
    Calls Try.prog 79 #[.slice A n c, .int .u8 (x.toNat : Int)] w fun e w' => e = .returned (.bool true) ∧ w = w' := by
  unfold lim at hm
  have H := Lib.hid h
  have HX := Lib.hid hx
  clear h hx
  have IX : Hid (∀ W : World, W = w → Calls Try.prog 95 #[.slice A n c, .int .u8 (x.toNat : Int)] W fun e w' => (∃ k : Nat, e = .returned (.int .i64 k)) ∧ W = w') := by
    intro W hW
    subst hW
    go_enter Try.func95, Try.ntmps95
    go_wp2_with fail
    go_loop [8] (fun i => ∃ k : Nat, k ≤ n ∧ i = .int .i64 k ∧ Hid (x ∈ l.drop k)) (fun i => n - (intOf i).toNat)
    case atStart => exact ⟨0, Nat.zero_le _, rfl, HX.out⟩
    case round =>
      obtain ⟨k, hk, rfl, HM⟩ := hrel
      by_cases hlt : k < n
      · obtain ⟨ad, rfl, hE⟩ := H.out.els (by omega)
        obtain ⟨b, hb, hcb⟩ := hE.byte hlt
        have HB := Lib.hid hb
        clear hb
        by_cases hxb : x = b
        · subst hxb
          go_wp2_with fail
          go_ret
          exact ⟨⟨k, rfl⟩, rfl⟩
        · have hne : ((x.toNat : Int) == (b.toNat : Int)) = false := by
            rw [beq_eq_false_iff_ne]; intro e; exact hxb (UInt8.toNat_inj.1 (by omega))
          have HM' : Hid (x ∈ l.drop (k + 1)) := by
            have := HM.out
            rw [drop_cons HB.out] at this
            rcases List.mem_cons.1 this with h | h
            · exact absurd h hxb
            · exact h
          clear hxb
          go_wp2_with fail
          go_round
          case rel => exact ⟨k + 1, by omega, by go_num, HM'⟩
          case measure => simp [intOf]; omega
      · exfalso
        have := HM.out
        rw [List.drop_eq_nil_of_le (by have := H.out.1; omega)] at this
        exact absurd this List.not_mem_nil
  go_enter Try.func79, Try.ntmps79
  go_wp2_with fail
  refine (IX.out _ rfl).mono ?_
  rintro e w1 ⟨⟨k, rfl⟩, rfl⟩
  go_wp2_with fail
  go_ret
  exact ⟨retB (by simp), rfl⟩

set_option maxRecDepth 100000 in
set_option maxHeartbeats 1000000 in
theorem made_any (w : World) : Calls Try.prog 45 #[] w fun e w' => e = .returned (.bool true) ∧ Fr w w' := by
  have E1 : Hid ((makeSym 3 1 [1, 2, 4] 7).1.1 = 7 ∧ (makeSym 3 1 [1, 2, 4] 7).2 = 0 ∧ (makeSym 3 1 [1, 2, 4] 7).1.2.length = 1 ∧ (makeSym 3 1 [1, 2, 4] 7).1.2.getD 0 0 ∈ [3, 5, 6]) := by unfold Hid; decide +kernel
  have E2 : Hid (makeSym 3 1 [1, 2, 4] 2 = ((2, [4]), 0)) := by unfold Hid; decide +kernel
  have E3 : Hid (codeCheck 3 1 7 1 = 0) := by unfold Hid; decide
  obtain ⟨X, hX⟩ : ∃ X, X = (makeSym 3 1 [1, 2, 4] 7).1.2 := ⟨_, rfl⟩
  have E4 : Hid (makeSym 3 1 [1, 2, 4] 7 = ((7, X), 0)) := by
    rw [Hid, hX]
    have := E1.out
    exact Prod.ext (Prod.ext this.1 rfl) this.2.1
  have E5 : Hid (X.length = 1 ∧ X.getD 0 0 ∈ [3, 5, 6]) := by rw [Hid, hX]; exact E1.out.2.2
  clear E1 hX
  go_enter Try.func45, Try.ntmps45
  go_wp2_with fail
  refine (codeMake_any _ _ 3 _ _ _ [1, 2, 4] _ ?_ (by omega) (by unfold maxLen; omega) (by decide) (by decide)).mono ?_
  · apply Sl.litBytes (hn := rfl)
    · (repeat' (first | (refine heap_new ?_; (first | (simp; done) | rfl); done) | refine heap_dn ?_ | refine heap_d ?_ | refine heap_old ?_))
    · simp [LT]
    · rfl
  · rw [E4.out]
    rintro e w1 ⟨A1, n1, c1, rfl, hc1, _, hs1, hf1⟩
    obtain rfl : n1 = 1 := by rw [← hs1.1]; exact E5.out.1
    have hb0 : w1.cell? ⟨w.heap.size, 0, none⟩ = some (.int .i64 3) := (hf1.cell (p := ⟨w.heap.size, 0, none⟩) (by simp; omega)).trans (by simp)
    have hb1 : w1.cell? ⟨w.heap.size, 1, none⟩ = some (.int .i64 1) := (hf1.cell (p := ⟨w.heap.size, 1, none⟩) (by simp; omega)).trans (by simp)
    have h1c : 1 ≤ c1 := hc1.2.1
    have hlt0 : w.heap.size < w1.heap.size := World.block_lt_of_cell? _ _ hb0
    have hlt1 : w.heap.size + 1 < w1.heap.size := by have := hf1.size; simp at this; omega
    obtain ⟨ad, rfl, hE⟩ := hs1.els (by decide)
    obtain ⟨b, hbx, hcl⟩ := hE.byte (k := 0) (by decide)
    have hcl : w1.cell? ad = some (bV b) := by simpa [Addr.add, bV] using hcl
    have E6 : Hid (b ∈ [(3 : UInt8), 5, 6]) := by
      have := E5.out.2
      rw [List.getD_eq_getElem?_getD, hbx] at this
      exact this
    have E7 := E5.out.1
    clear hbx hc1 E5
    (have Hf1 := Lib.hid hf1; clear hf1; have Hs1 := Lib.hid hs1; clear hs1; have E7 := Lib.hid E7; clear E7)
    go_wp2_with fail
    refine (codeMake_any _ _ 3 _ _ _ [1, 2, 4] _ ?_ (by omega) (by unfold maxLen; omega) (by decide) (by decide)).mono ?_
    · apply Sl.litBytes (hn := rfl)
      · (repeat' (first | (refine heap_new ?_; (first | (simp; done) | rfl); done) | refine heap_dn ?_ | refine heap_d ?_ | refine heap_old ?_))
      · simp [LT]
      · rfl
    · rw [E2.out]
      rintro e w2 ⟨A2, n2, c2, rfl, hc2, _, hs2, hf2⟩
      obtain rfl : n2 = 1 := hs2.1.symm
      have h2c : 1 ≤ c2 := hc2.2.1
      have ha0 : w2.cell? ⟨w1.heap.size, 0, none⟩ = some (.int .i64 7) := (hf2.cell (p := ⟨w1.heap.size, 0, none⟩) (by simp; omega)).trans (by simp)
      have ha1 : w2.cell? ⟨w1.heap.size, 1, none⟩ = some (.slice (some ad) 1 c1) := (hf2.cell (p := ⟨w1.heap.size, 1, none⟩) (by simp; omega)).trans (by simp)
      have hlt := World.block_lt_of_cell? _ _ hcl
      have hltw : w1.heap.size < w2.heap.size := World.block_lt_of_cell? _ _ ha0
      have hltw1 : w1.heap.size + 1 < w2.heap.size := by have := hf2.size; simp at this; omega
      have hf12 : Fr w1 w2 := ((frAlloc _ _).trans (frAlloc _ _)).trans hf2
      have hcl2 : w2.cell? ad = some (.int .u8 (b.toNat : Int)) := (hf12.cell hlt).trans hcl
      have hltp : w.heap.size < w2.heap.size := Nat.lt_trans hlt0 hltw
      have hcl3 : ((w2.alloc (.cells #[.int .i64 2, .slice A2 1 c2] 53)).alloc (.cells #[.int .u8 3, .int .u8 5, .int .u8 6] 5)).cell? ad = some (.int .u8 (b.toNat : Int)) := (((frAlloc _ _).trans (frAlloc _ _)).cell (World.block_lt_of_cell? _ _ hcl2)).trans hcl2
      have hp0 := (hf12.cell hlt0).trans hb0
      have hp1 := (hf12.cell hlt0).trans hb1
      clear hf12
      clear hc2
      (have Hf2 := Lib.hid hf2; clear hf2; have Hs2 := Lib.hid hs2; clear hs2)
      go_wp2_with fail
      refine (containsBytes_any _ Any _ 3 _ [3, 5, 6] b ?_ (by unfold lim; omega) E6.out).mono ?_
      · apply Sl.litBytes (hS := trivial) (hn := rfl)
        · (repeat' (first | (refine heap_new ?_; (first | (simp; done) | rfl); done) | refine heap_dn ?_ | refine heap_d ?_ | refine heap_old ?_))
        · rfl
      · rintro e w3 ⟨rfl, rfl⟩
        go_wp2_with fail
        refine (equalBlock_any _ _ Any _ _ _ _ _ _ [4] [4] (Hs2.out.go sByte (by (repeat' (first | exact Below.refl _ _ | refine below_drewN ?_ _ | refine Below.drew ?_ | refine frA ?_ _ | refine Fr.trans ?_ Hf2.out | refine Fr.trans ?_ Hf1.out)))) ?_ (by decide)).mono ?_
        · apply Sl.litBytes (hS := trivial) (hn := rfl)
          · (repeat' (first | (refine heap_new ?_; (first | (simp; done) | rfl); done) | refine heap_dn ?_ | refine heap_d ?_ | refine heap_old ?_))
          · rfl
        · rintro e w4 ⟨rfl, m, hw4⟩
          have hf4 : Fr w2 w4 := by rw [hw4]; exact (((frAlloc _ _).trans (frAlloc _ _)).trans (frAlloc _ _)).trans (frDrewN _ _)
          have hp0 := (hf4.cell hltp).trans hp0
          have hp1 := (hf4.cell hltp).trans hp1
          have ha0 := (hf4.cell hltw).trans ha0
          have ha1 := (hf4.cell hltw).trans ha1
          clear hw4 hcl3
          (have Hf4 := Lib.hid hf4; clear hf4)
          go_wp2_with fail
          refine (codeCheck_any _ 3 1 7 _ _ _ (by decide) (by decide)).mono ?_
          rw [E3.out]
          rintro e w5 ⟨rfl, hf5⟩
          (have Hf5 := Lib.hid hf5; clear hf5)
          go_wp2_with fail
          go_ret
          exact ⟨rfl, by (repeat' (first | exact Below.refl _ _ | refine below_drewN ?_ _ | refine Below.drew ?_ | refine frA ?_ _ | refine Fr.trans ?_ Hf5.out | refine Fr.trans ?_ Hf4.out | refine Fr.trans ?_ Hf2.out | refine Fr.trans ?_ Hf1.out))⟩
end Go.Proofs.Ytnfjghldcopaaaa
