/- way.Same and the reference's SameMail. No condition. -/
import Derived.Test.YtahkpbenebmmdaaWayE2
import Derived.StillTailTactics
import Derived.Deep.RegionHeld3
set_option linter.unusedSimpArgs false
set_option linter.unusedVariables false
namespace Go.Proofs.Ytahkpbenebmmdaa
open Go.RowKit
attribute [local irreducible] wpList

set_option maxRecDepth 100000 in
set_option maxHeartbeats 2000000 in
theorem equalFuncMl_any (w : World) (f : FuncId) (hcf : ∀ (args : Array Value) (W : World), (callFunc f args).run Try.prog W = .ok (.enter f args) W) (hfn : SaysMl Try.prog f) (A A' : Option Addr) (n c n' c' : Nat) (xs ys : List Ml) (h : Sl 13 eMl w (LT w.heap.size) A n xs) (h' : Sl 13 eMl w (LT w.heap.size) A' n' ys) (hm : n ≤ maxLen) :
    Calls Try.prog 65 #[.slice A n c, .slice A' n' c', .func (.func f) #[] #[]] w fun e w' => e = .returned (.bool (decide (xs = ys))) ∧ Fr w w' := by
  unfold maxLen at hm
  have H := Lib.hid h
  have H' := Lib.hid h'
  have HFN := Lib.hid hfn
  clear h h' hfn
  by_cases hn : n = n'
  · have hne : ((n : Int) != (n' : Int)) = false := by simp [hn]
    have HN : Hid (n = n') := hn
    clear hn
    go_enter Try.func65, Try.ntmps65
    go_wp2_with fail
    go_loopw [17] (fun i wr => ∃ k : Nat, k ≤ n ∧ i = .int .i64 k ∧ Hid (Fr w wr) ∧ Hid (decide (xs = ys) = decide (xs.drop k = ys.drop k))) (fun i _ => n - (intOf i).toNat)
    case atStart => exact ⟨0, Nat.zero_le _, rfl, Below.refl _ _, rfl⟩
    case round =>
      obtain ⟨k, hk, rfl, HF, HS⟩ := hrel
      by_cases hlt : k < n
      · have hlt' : k < n' := HN.out ▸ hlt
        obtain ⟨ad, rfl, hE⟩ := (H.out.go sMl HF.out).els (by omega)
        obtain ⟨ad', rfl, hE'⟩ := (H'.out.go sMl HF.out).els (by omega)
        obtain ⟨a, ha, hra⟩ := hE.row hlt
        obtain ⟨b, hb, hrb⟩ := hE'.row hlt'
        obtain ⟨A1, n1, c1, ⟨m0, m1, m2, m3, m4, m5, m6, m7, m8, m9, m10, m11, m12⟩, _, hy1⟩ := eMl_at hra
        obtain ⟨A2, n2, c2, ⟨q0, q1, q2, q3, q4, q5, q6, q7, q8, q9, q10, q11, q12⟩, _, hy2⟩ := eMl_at hrb
        have HS' : Hid (decide (xs = ys) = (decide (a = b) && decide (xs.drop (k + 1) = ys.drop (k + 1)))) := drop_eq_cons ha hb HS.out
        have hlb : (ad'.add (k * 13)).block < wr.heap.size := by rw [block_of_add]; exact hE'.2.1
        clear HS ha hb hE hE' hra hrb
        (have Hy1 := Lib.hid hy1; clear hy1; have Hy2 := Lib.hid hy2; clear hy2)
        go_wp2_with fail
        refine (HFN.out ((wr.alloc (.cells #[.int .i64 a.frm, .int .i64 a.to, .int .i64 a.f.kind, .int .i64 a.f.h.frm, .int .i64 a.f.h.seq, .int .i64 a.f.h.to, .int .i64 a.f.h.till, .int .i64 a.f.h.bytes, .int .i64 a.f.h.block, .int .i64 a.f.s.id, .slice A1 n1 c1, .int .i64 a.f.n, .int .i64 a.f.try_] 73)).alloc (.cells #[.int .i64 b.frm, .int .i64 b.to, .int .i64 b.f.kind, .int .i64 b.f.h.frm, .int .i64 b.f.h.seq, .int .i64 b.f.h.to, .int .i64 b.f.h.till, .int .i64 b.f.h.bytes, .int .i64 b.f.h.block, .int .i64 b.f.s.id, .slice A2 n2 c2, .int .i64 b.f.n, .int .i64 b.f.try_] 73)) a b _ _ _ _ _ _ (Hy1.out.go (by (repeat' (first | exact Below.refl _ _ | refine below_drewN ?_ _ | refine Below.drew ?_ | refine frA ?_ _)))) (Hy2.out.go (by (repeat' (first | exact Below.refl _ _ | refine below_drewN ?_ _ | refine Below.drew ?_ | refine frA ?_ _))))).mono ?_
        rintro e w1 ⟨rfl, hf1⟩
        have HF1 : Hid (Fr w w1) := Fr.trans (by (repeat' (first | exact Below.refl _ _ | refine below_drewN ?_ _ | refine Below.drew ?_ | refine frA ?_ _ | refine Fr.trans ?_ HF.out))) hf1
        clear hf1 m0 m1 m2 m3 m4 m5 m6 m7 m8 m9 m10 m11 m12 q0 q1 q2 q3 q4 q5 q6 q7 q8 q9 q10 q11 q12
        by_cases hab : a = b
        · have hd : decide (a = b) = true := decide_eq_true hab
          clear hab
          go_wp2_with fail
          go_roundw
          case rel => exact ⟨k + 1, by omega, by go_num, HF1, by rw [Hid, HS'.out, hd]; simp⟩
          case measure => simp [intOf]; omega
        · have hd : decide (a = b) = false := decide_eq_false hab
          clear hab
          go_wp2_with fail
          go_ret
          exact ⟨retB (by rw [HS'.out, hd]; simp), HF1.out⟩
      · have HT : Hid (decide (xs = ys) = true) := by
          have h1 := H.out.1
          have h2 := H'.out.1
          rw [Hid, HS.out, List.drop_eq_nil_of_le (by omega), List.drop_eq_nil_of_le (by have := HN.out; omega)]; rfl
        go_wp2_with fail
        go_ret
        exact ⟨retB HT.out.symm, HF.out⟩
  · have hne : ((n : Int) != (n' : Int)) = true := by rw [bne_iff_ne]; omega
    have HF : Hid (decide (xs = ys) = false) := by
      rw [Hid, decide_eq_false_iff_not]; rintro rfl; exact hn (H.out.1.symm.trans H'.out.1)
    go_enter Try.func65, Try.ntmps65
    go_wp2_with fail
    go_ret
    exact ⟨retB HF.out.symm, Below.refl _ _⟩

theorem entersW {P : Program} {f : FuncId} {fn : Func} (hf : P.funcs[f]? = some fn) (hn : (fn.name == "runtime.NumGoroutine") = false) (hb : fn.body.isNone = false) (args : Array Value) (W : World) : (callFunc f args).run P W = .ok (.enter f args) W := by
  have h1 : fn.name ≠ "runtime.NumGoroutine" := by simpa using hn
  have h2 : fn.body ≠ none := by intro e; rw [e] at hb; simp at hb
  simp [callFunc, hf, h1, h2]
theorem entersM1 : ∀ (args : Array Value) (W : World), (callFunc 66 args).run Try.prog W = .ok (.enter 66 args) W :=
  entersW Try.func66 (by kernel_rfl) (by kernel_rfl)
theorem entersM2 : ∀ (args : Array Value) (W : World), (callFunc 67 args).run Try.prog W = .ok (.enter 67 args) W :=
  entersW Try.func67 (by kernel_rfl) (by kernel_rfl)

theorem waySame_any (w : World) (A A' : Option Addr) (n c n' c' : Nat) (xs ys : List Ml) (h : Sl 13 eMl w (LT w.heap.size) A n xs) (h' : Sl 13 eMl w (LT w.heap.size) A' n' ys) (hm : n ≤ maxLen) :
    Calls Try.prog 51 #[.slice A n c, .slice A' n' c'] w fun e w' => e = .returned (.bool (decide (xs = ys))) ∧ Fr w w' := by
  have H := Lib.hid h
  have H' := Lib.hid h'
  clear h h'
  go_enter Try.func51, Try.ntmps51
  go_wp2_with fail
  refine (equalFuncMl_any _ _ entersM1 saysMl1 _ _ _ _ _ _ xs ys H.out H'.out hm).mono ?_
  rintro e w' ⟨rfl, hf⟩
  have Hf := Lib.hid hf
  clear hf
  go_wp2_with fail
  go_ret
  exact ⟨rfl, Hf.out⟩
theorem refSame_any (w : World) (A A' : Option Addr) (n c n' c' : Nat) (xs ys : List Ml) (h : Sl 13 eMl w (LT w.heap.size) A n xs) (h' : Sl 13 eMl w (LT w.heap.size) A' n' ys) (hm : n ≤ maxLen) :
    Calls Try.prog 52 #[.slice A n c, .slice A' n' c'] w fun e w' => e = .returned (.bool (decide (xs = ys))) ∧ Fr w w' := by
  have H := Lib.hid h
  have H' := Lib.hid h'
  clear h h'
  go_enter Try.func52, Try.ntmps52
  go_wp2_with fail
  refine (equalFuncMl_any _ _ entersM2 saysMl2 _ _ _ _ _ _ xs ys H.out H'.out hm).mono ?_
  rintro e w' ⟨rfl, hf⟩
  have Hf := Lib.hid hf
  clear hf
  go_wp2_with fail
  go_ret
  exact ⟨rfl, Hf.out⟩
end Go.Proofs.Ytahkpbenebmmdaa
