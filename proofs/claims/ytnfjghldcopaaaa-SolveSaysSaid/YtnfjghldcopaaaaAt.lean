/- The law's 'at'. No condition. -/
import Derived.Test.YtnfjghldcopaaaaOwn
set_option linter.unusedSimpArgs false
set_option linter.unusedVariables false
namespace Go.Proofs.Ytnfjghldcopaaaa
open Go.RowKit


theorem at_any (w : World) (k : Int) (n : Nat) (hn : 0 < n) (hn2 : n ≤ lim) : Calls Try.prog 36 #[.int .i64 k, .int .i64 n] w fun e w' => e = .returned (.int .i64 (k % (n : Int))) ∧ w = w' := by
  unfold lim at hn2
  have h0 : ((n : Int) == 0) = false := by rw [beq_eq_false_iff_ne]; omega
  have h1 := Int.emod_nonneg k (show (n : Int) ≠ 0 by omega)
  have h2 := Int.emod_lt_of_pos k (show (0 : Int) < n by omega)
  have h3 : k.tmod n = k % n ∨ (k.tmod n = k % n - n ∧ k % n ≠ 0) := by
    have e := Int.tmod_eq_emod (a := k) (b := (n : Int))
    split at e
    · left; omega
    · rename_i hd
      exact .inr ⟨by omega, fun h => hd (.inr (Int.dvd_of_emod_eq_zero h))⟩
  obtain ⟨q, hq⟩ : ∃ q, q = k % (n : Int) := ⟨_, rfl⟩
  rw [← hq] at h1 h2 h3
  rw [← hq]
  clear hq
  rcases h3 with h3 | ⟨h3, hq0⟩
  · have hlt : decide (q < 0) = false := by simp; omega
    go_enter Try.func36, Try.ntmps36
    go_wp2
    go_ret
    exact ⟨rfl, rfl⟩
  · have hlt : decide (q - (n : Int) < 0) = true := by simp; omega
    go_enter Try.func36, Try.ntmps36
    go_wp2
    go_ret
    exact ⟨retI (by omega), rfl⟩

theorem enters {P : Program} {f : FuncId} {fn : Func} (hf : P.funcs[f]? = some fn) (hn : (fn.name == "runtime.NumGoroutine") = false) (hb : fn.body.isNone = false) (args : Array Value) (W : World) : (callFunc f args).run P W = .ok (.enter f args) W := by
  have h1 : fn.name ≠ "runtime.NumGoroutine" := by simpa using hn
  have h2 : fn.body ≠ none := by intro e; rw [e] at hb; simp at hb
  simp [callFunc, hf, h1, h2]
end Go.Proofs.Ytnfjghldcopaaaa
