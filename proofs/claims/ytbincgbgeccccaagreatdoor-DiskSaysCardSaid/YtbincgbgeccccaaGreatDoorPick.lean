/- Contracts of package pick. No condition. -/
import Derived.Test.YtbincgbgeccccaaGreatDoorOwn
import Derived.Test.YtbincgbgeccccaaGreatDoorPickP
import Derived.Deep.LoopGhost
import Derived.Test.YtbincgbgeccccaaGreatDoorEq
set_option linter.unusedSimpArgs false
set_option linter.unusedVariables false
namespace Go.Proofs.YtbincgbgeccccaaGreatDoor
open Go.RowKit

/-- What pick.Of answers. -/
def pickOf (id b : Int) : List Bool × Int := if 0 ≤ id ∧ id ≤ 9999 ∧ 1 ≤ b ∧ b ≤ 24 then (pickHas id.toNat b.toNat, 0) else ([], 3)
theorem cnt_take {l : List Bool} {k : Nat} {b : Bool} (h : l[k]? = some b) : cnt (l.take (k + 1)) = cnt (l.take k) + if b then 1 else 0 := by
  rw [take_snoc' h]
  cases b <;> simp [cnt]
theorem cnt_le (l : List Bool) : cnt l ≤ l.length := List.countP_le_length

end Go.Proofs.YtbincgbgeccccaaGreatDoor
