/- 'CutSays' under the bulk's bound. No condition beside it. -/
import Derived.Test.YtahkpbenebmmdaaCutSays
import Derived.Test.YtahkpbenebmmdaaOpenB
set_option linter.unusedSimpArgs false
set_option linter.unusedVariables false
namespace Go.Proofs.Ytahkpbenebmmdaa
open Go.RowKit

theorem cutSays_any (w : World) (B K : Int) (wB : wfI B) (wK : wfI K) (A1 : Option Addr) (n1 c1 : Nat) (xs : List UInt8) (h1 : Sl 1 eByte w (LT w.heap.size) A1 n1 xs) (hm1 : n1 * 1 ≤ lim) (hc1 : n1 ≤ c1) (hx1 : c1 ≤ maxLen) (hb1 : (xs.map fun _ => 1).sum ≤ 1048576)
    (A2 : Option Addr) (n2 c2 : Nat) (ls : List (List UInt8)) (h2 : Sl 1 eBlock w (LT w.heap.size) A2 n2 ls) (hm2 : n2 * 24 ≤ lim) (hc2 : n2 ≤ c2) (hx2 : c2 ≤ maxLen) (hb2 : (ls.map fun l => (l.map fun _ => 1).sum).sum ≤ 1048576) :
    Calls Try.prog 9 #[.agg #[.int .i64 B, .int .i64 K], .slice A1 n1 c1, .slice A2 n2 c2] w fun e w' => e = .returned (.bool true) ∧ Fr w w' := by
  refine cutSays_walk w B K wB wK A1 n1 c1 xs h1 hc1 hx1 A2 n2 c2 ls h2 hm2 ?_
  simp only [sum_ones] at hb2
  have : lens ls ≤ 1048576 := hb2
  unfold lim
  omega
end Go.Proofs.Ytahkpbenebmmdaa
