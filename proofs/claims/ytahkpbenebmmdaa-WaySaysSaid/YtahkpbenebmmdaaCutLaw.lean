/- slices.EqualFunc at blocks, and the closed fact on cargos. No condition. -/
import Derived.Test.YtahkpbenebmmdaaJoin
import Derived.Test.YtahkpbenebmmdaaEq
import Derived.Test.YtahkpbenebmmdaaSumLaw
import Derived.StillTailTactics
import Derived.Deep.RegionHeld3
set_option linter.unusedSimpArgs false
set_option linter.unusedVariables false
namespace Go.Proofs.Ytahkpbenebmmdaa
open Go.RowKit

/-- A function value that tells whether two blocks are alike. -/
def SaysEq (P : Program) (f : FuncId) : Prop := ∀ (W : World) (S T : Nat → Prop) (A A' : Option Addr) (n c n' c' : Nat) (xs ys : List UInt8), Sl 1 eByte W S A n xs → Sl 1 eByte W T A' n' ys → n ≤ maxLen →
  Calls P f #[.slice A n c, .slice A' n' c'] W fun e w' => e = .returned (.bool (decide (xs = ys))) ∧ ∃ m, w' = W.drewN m

set_option maxHeartbeats 400000 in
theorem equalFuncBlock_any (w : World) (f : FuncId) (hcf : ∀ (args : Array Value) (W : World), (callFunc f args).run Try.prog W = .ok (.enter f args) W) (hfn : SaysEq Try.prog f) (S T : Nat → Prop) (A A' : Option Addr) (n c n' c' : Nat) (xs ys : List (List UInt8)) (h : Sl 1 eBlock w S A n xs) (h' : Sl 1 eBlock w T A' n' ys) (hm : n ≤ maxLen) :
    Calls Try.prog 31 #[.slice A n c, .slice A' n' c', .func (.func f) #[] #[]] w fun e w' => e = .returned (.bool (decide (xs = ys))) ∧ ∃ m, w' = w.drewN m := by
  unfold maxLen at hm
  have H := Lib.hid h
  have H' := Lib.hid h'
  have HFN := Lib.hid hfn
  clear h h' hfn
  by_cases hn : n = n'
  · have hne : ((n : Int) != (n' : Int)) = false := by simp [hn]
    have HN : Hid (n = n') := hn
    clear hn
    go_enter Try.func31, Try.ntmps31
    go_wp2_with fail
    go_loopw [17] (fun i wr => ∃ k m : Nat, k ≤ n ∧ i = .int .i64 k ∧ wr = w.drewN m ∧ Hid (decide (xs = ys) = decide (xs.drop k = ys.drop k))) (fun i _ => n - (intOf i).toNat)
    case atStart => exact ⟨0, 0, Nat.zero_le _, rfl, rfl, rfl⟩
    case round =>
      obtain ⟨k, m, hk, rfl, rfl, HS⟩ := hrel
      by_cases hlt : k < n
      · have hlt' : k < n' := HN.out ▸ hlt
        obtain ⟨ad, rfl, hE⟩ := H.out.els (by omega)
        obtain ⟨ad', rfl, hE'⟩ := H'.out.els (by omega)
        obtain ⟨A1, n1, c1, a, ha, hca, hl1, hs1⟩ := hE.block hlt
        obtain ⟨A2, n2, c2, b, hb, hcb, hl2, hs2⟩ := hE'.block hlt'
        have HS' : Hid (decide (xs = ys) = (decide (a = b) && decide (xs.drop (k + 1) = ys.drop (k + 1)))) := drop_eq_cons ha hb HS.out
        clear HS ha hb
        (have Hs1 := Lib.hid hs1; clear hs1; have Hs2 := Lib.hid hs2; clear hs2)
        go_wp2_with fail
        refine (HFN.out (w.drewN m) S T _ _ _ _ _ _ _ _ (Hs1.out.keep sByte (fun _ _ => rfl)) (Hs2.out.keep sByte (fun _ _ => rfl)) (by unfold maxLen; unfold lim at hl1; omega)).mono ?_
        rintro e w1 ⟨rfl, m1, rfl⟩
        by_cases hab : a = b
        · have hd : decide (a = b) = true := decide_eq_true hab
          clear hab
          go_wp2_with fail
          go_roundw
          case rel => exact ⟨k + 1, _, by omega, by go_num, rfl, by rw [Hid, HS'.out, hd]; simp⟩
          case measure => simp [intOf]; omega
        · have hd : decide (a = b) = false := decide_eq_false hab
          clear hab
          go_wp2_with fail
          go_ret
          exact ⟨retB (by rw [HS'.out, hd]; simp), _, rfl⟩
      · have HF : Hid (decide (xs = ys) = true) := by
          have h1 := H.out.1
          have h2 := H'.out.1
          rw [Hid, HS.out, List.drop_eq_nil_of_le (by omega), List.drop_eq_nil_of_le (by have := HN.out; omega)]; rfl
        go_wp2_with fail
        go_ret
        exact ⟨retB HF.out.symm, _, rfl⟩
  · have hne : ((n : Int) != (n' : Int)) = true := by rw [bne_iff_ne]; omega
    have HF : Hid (decide (xs = ys) = false) := by
      rw [Hid, decide_eq_false_iff_not]; rintro rfl; exact hn (H.out.1.symm.trans H'.out.1)
    go_enter Try.func31, Try.ntmps31
    go_wp2_with fail
    go_ret
    exact ⟨retB HF.out.symm, 0, rfl⟩

set_option maxHeartbeats 1000000 in
theorem parted_any (w : World) : Calls Try.prog 30 #[] w fun e w' => e = .returned (.bool true) ∧ Fr w w' := by
  have E1 : Hid (cutUp 5 2 [1, 2, 3, 4, 5] = ([[1, 2], [3, 4], [5, 0]], 0)) := by unfold Hid; decide
  have E2 : Hid (joinUp 5 2 [[1, 2], [3, 4], [5, 0]] = ([1, 2, 3, 4, 5], 0)) := by unfold Hid; decide
  go_enter Try.func30, Try.ntmps30
  go_wp2_with fail
  refine (cutCut_any _ _ 5 _ _ _ [1, 2, 3, 4, 5] ?_ (by omega) (by unfold maxLen; omega) (by decide) (by decide)).mono ?_
  · apply Sl.litBytes (hn := rfl)
    · (repeat' (first | (refine heap_new ?_; (first | (simp; done) | rfl); done) | refine heap_dn ?_ | refine heap_d ?_ | refine heap_old ?_))
    · simp [LT]
    · rfl
  · rw [E1.out]
    rintro e w1 ⟨v, rfl, ho, hf⟩
    obtain ⟨A1, c1, rfl, hc, hs1⟩ := ho.slC wBlock (by decide)
    have hb0 : w1.cell? ⟨w.heap.size, 0, none⟩ = some (.int .i64 5) := (hf.cell (p := ⟨w.heap.size, 0, none⟩) (by simp; omega)).trans (by simp)
    have hb1 : w1.cell? ⟨w.heap.size, 1, none⟩ = some (.int .i64 2) := (hf.cell (p := ⟨w.heap.size, 1, none⟩) (by simp; omega)).trans (by simp)
    obtain ⟨ad, rfl, hE⟩ := hs1.els (by decide)
    obtain ⟨A2, n2, c2, l, hl, hcl, _, hs2⟩ := hE.block (k := 2) (by decide)
    obtain rfl : [5, 0] = l := by simpa using hl
    obtain rfl : n2 = 2 := hs2.1.symm
    clear hl hc
    (have Hf := Lib.hid hf; clear hf; have Hs1 := Lib.hid hs1; clear hs1; have Hs2 := Lib.hid hs2; clear hs2; have Ho := Lib.hid ho; clear ho)
    go_wp2_with fail
    refine (cutJoin_any _ _ _ _ _ _ _ Hs1.out (by decide) (by decide)).mono ?_
    rw [E2.out]
    rintro e w2 ⟨A3, n3, c3, rfl, hn3, hc3, hm3, hs3, hf2⟩
    obtain rfl : n3 = 5 := hs3.1.symm
    have hcl2 := (hf2.cell (World.block_lt_of_cell? w1 _ hcl)).trans hcl
    have hcl3 : w2.cell? { ad with off := ad.off + 2, spot := none } = some (.slice A2 2 c2) := by simpa [Addr.add] using hcl2
    (have Hf2 := Lib.hid hf2; clear hf2; have Hs3 := Lib.hid hs3; clear hs3)
    go_wp2_with fail
    refine (equalBlock_any _ _ Any _ _ _ _ _ _ [5, 0] [5, 0] ((Hs2.out.go sByte Hf2.out).go sByte (frAlloc _ _)) ?_ (by decide)).mono ?_
    · apply Sl.litBytes (hS := trivial) (hn := rfl)
      · (repeat' (first | (refine heap_new ?_; (first | (simp; done) | rfl); done) | refine heap_dn ?_ | refine heap_d ?_ | refine heap_old ?_))
      · rfl
    · rintro e w3 ⟨rfl, m, rfl⟩
      go_wp2_with fail
      refine (equalBytes_any _ _ Any _ _ _ _ _ _ [1, 2, 3, 4, 5] [1, 2, 3, 4, 5] (Hs3.out.go sByte (by (repeat' (first | exact Below.refl _ _ | refine below_drewN ?_ _ | refine Below.drew ?_ | refine frA ?_ _ | refine Fr.trans ?_ Hf3.out | refine Fr.trans ?_ Hf2.out | refine Fr.trans ?_ Hf1.out)))) ?_ (by decide)).mono ?_
      · apply Sl.litBytes (hS := trivial) (hn := rfl)
        · (repeat' (first | (refine heap_new ?_; (first | (simp; done) | rfl); done) | refine heap_dn ?_ | refine heap_d ?_ | refine heap_old ?_))
        · rfl
      · rintro e w4 ⟨rfl, m', rfl⟩
        go_wp2_with fail
        go_ret
        exact ⟨rfl, by (repeat' (first | exact Below.refl _ _ | refine below_drewN ?_ _ | refine Below.drew ?_ | refine frA ?_ _ | refine Fr.trans ?_ Hf2.out | refine Fr.trans ?_ Hf.out))⟩

theorem at_any (w : World) (k : Int) (n : Nat) (hn : 0 < n) (hn2 : n ≤ lim) : Calls Try.prog 26 #[.int .i64 k, .int .i64 n] w fun e w' => e = .returned (.int .i64 (k % (n : Int))) ∧ w = w' := by
  unfold lim at hn2
  have h0 : ((n : Int) == 0) = false := by rw [beq_eq_false_iff_ne]; omega
  have h1 := Int.emod_nonneg k (show (n : Int) ≠ 0 by omega)
  have h2 := Int.emod_lt_of_pos k (show (0 : Int) < n by omega)
  have h3 : k.tmod n = k % n ∨ (k.tmod n = k % n - n ∧ k % n ≠ 0) := by
    have e := Int.tmod_eq_emod (a := k) (b := (n : Int))
    split at e
    · left; omega
    · rename_i hd
      exact .inr ⟨by omega, fun h => hd (.inr (Int.dvd_of_emod_eq_zero h))⟩
  obtain ⟨q, hq⟩ : ∃ q, q = k % (n : Int) := ⟨_, rfl⟩
  rw [← hq] at h1 h2 h3
  rw [← hq]
  clear hq
  rcases h3 with h3 | ⟨h3, hq0⟩
  · have hlt : decide (q < 0) = false := by simp; omega
    go_enter Try.func26, Try.ntmps26
    go_wp2
    go_ret
    exact ⟨rfl, rfl⟩
  · have hlt : decide (q - (n : Int) < 0) = true := by simp; omega
    go_enter Try.func26, Try.ntmps26
    go_wp2
    go_ret
    exact ⟨retI (by omega), rfl⟩

theorem enters {P : Program} {f : FuncId} {fn : Func} (hf : P.funcs[f]? = some fn) (hn : (fn.name == "runtime.NumGoroutine") = false) (hb : fn.body.isNone = false) (args : Array Value) (W : World) : (callFunc f args).run P W = .ok (.enter f args) W := by
  have h1 : fn.name ≠ "runtime.NumGoroutine" := by simpa using hn
  have h2 : fn.body ≠ none := by intro e; rw [e] at hb; simp at hb
  simp [callFunc, hf, h1, h2]
end Go.Proofs.Ytahkpbenebmmdaa
