/- pick.Of at right numbers. Conditions in its statement. -/
import Derived.Test.YtnfjghldcopaaaaPick
set_option linter.unusedSimpArgs false
set_option linter.unusedVariables false
namespace Go.Proofs.Ytnfjghldcopaaaa
open Go.RowKit
theorem pick_eq (w : World) (id : Int) (b : Nat) (h1 : 0 ≤ id) (h2 : id ≤ 9999) (h3 : 1 ≤ b) (h4 : b ≤ 24) :
    Calls Try.prog 29 #[.int .i64 id, .int .i64 (b : Int)] w fun e w' => ∃ A c, e = .returned (.tuple #[.slice A b c, .int .i64 0]) ∧ Sl 1 eBool w' (LT w'.heap.size) A b (pickHas id.toNat b) ∧ Fr w w' := by
  have E : pickOf id (b : Nat) = (pickHas id.toNat b, 0) := by
    unfold pickOf
    rw [if_pos (by omega), Int.toNat_natCast]
  refine (pickOf_any w id b).mono ?_
  rw [E]
  rintro e w' ⟨A, n, c, he, _, hn, hs, hf⟩
  obtain rfl : n = b := by have := hn rfl; omega
  exact ⟨A, c, he, hs, hf⟩
end Go.Proofs.Ytnfjghldcopaaaa
