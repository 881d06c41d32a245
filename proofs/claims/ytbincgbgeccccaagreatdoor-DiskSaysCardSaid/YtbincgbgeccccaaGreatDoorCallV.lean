/- A call through a function value that a slot holds, as a step of a walk. No condition; no function in sight. -/
import Derived.Test.YtbincgbgeccccaaGreatDoorBase
set_option linter.unusedSimpArgs false
set_option linter.unusedVariables false
namespace Go.Proofs.YtbincgbgeccccaaGreatDoor
open Go.RowKit

theorem entersW {P : Program} {f : FuncId} {fn : Func} (hf : P.funcs[f]? = some fn) (hn : (fn.name == "runtime.NumGoroutine") = false) (hb : fn.body.isNone = false) (args : Array Value) (W : World) : (callFunc f args).run P W = .ok (.enter f args) W := by
  have h1 : fn.name ≠ "runtime.NumGoroutine" := by simpa using hn
  have h2 : fn.body ≠ none := by intro e; rw [e] at hb; simp at hb
  simp [callFunc, hf, h1, h2]
theorem wpList_callv {P : Program} {w : World} {ops : Array Oper} {rest : List Oper} {o : Oper} {a : Act} {Q : Exit → Act → World → Prop} (t : Tmp) (xs : Array Operand) (ats : Array TypeId)
    (ho : o.op = .call { callee := .value (.tmp t), args := xs, argTypes := ats }) (hw : Region.wanted o (yielded ops a.tmps) = true) (f : FuncId) (caps : Array Value) (ht : a.eval (.tmp t) = .func (.func f) #[] caps)
    (hen : ∀ (args : Array Value) (W : World), (callFunc f args).run P W = .ok (.enter f args) W) (args : Array Value) (hargs : ((#[] ++ xs.map a.eval) ++ caps) = args) {R : Ending → World → Prop} (hC : Calls P f args w R)
    (h : ∀ e w', R e w' → ∃ v, e = .returned v ∧ wpList P ops Q rest (a.put o.dst v) w') : wpList P ops Q (o :: rest) a w := by
  refine BigFrame.wpList_want hw fun K hK => ?_
  unfold Oper.wp
  have e1 : (execOp a.eval o).run P w = .ok (.enter f ((#[] ++ xs.map a.eval) ++ caps)) w := by
    unfold execOp
    simp only [ho, resolve, ht]
    simp only [Deferred.ofValue, invoke, Sem.run_bind, Sem.run_pure, Result.andThen_ok, hen]
  rw [e1, hargs]
  unfold Oper.upon
  simp only []
  refine hC.mono fun e w' hr => ?_
  obtain ⟨v, rfl, h2⟩ := h e w' hr
  exact hK _ _ h2
/-- At a call through a slot, with one closed string. -/
theorem at_callv {P : Program} {w : World} {ops : Array Oper} {rest : List Oper} {o : Oper} {a : Act} {Q : Exit → Act → World → Prop} (t : Tmp) (c : UInt8) (ats : Array TypeId)
    (ho : o.op = .call { callee := .value (.tmp t), args := #[.const (.string ⟨#[c]⟩)], argTypes := ats }) (h : wpList P ops Q (o :: rest) a w) : wpList P ops Q (o :: rest) a w := h
end Go.Proofs.YtbincgbgeccccaaGreatDoor
