/- A list of operations cut in two. No condition; no function in sight. -/
import Derived.Test.YtbincgbgeccccaaGreatDoorBase
import Derived.Orders
set_option linter.unusedSimpArgs false
set_option linter.unusedVariables false
namespace Go.Proofs.YtbincgbgeccccaaGreatDoor
open Go.RowKit

/-- Where the first part ends R holds; every other end is as it was. -/
def Seg (Q : Exit → Act → World → Prop) (R : Act → World → Prop) : Exit → Act → World → Prop
  | .normal => R
  | e => Q e
section
variable {P : Program} {ops : Array Oper} {Q : Exit → Act → World → Prop} {R : Act → World → Prop} {next : Act → World → Prop} {a : Act} {w : World} {o : Oper}
theorem letsOut_seg (h : LetsOut (Seg Q R)) : LetsOut Q := h
theorem upon_seg {r : Result Next} (h : o.upon P a next (Seg Q R) r) : o.upon P a next Q r := by
  unfold Oper.upon at h ⊢
  split at h
  all_goals first
    | exact h
    | (refine h.mono fun e w' he => ?_
       cases e <;> exact he)
theorem wpList_seg : ∀ (l1 l2 : List Oper) (a : Act) (w : World), wpList P ops (Seg Q R) l1 a w → (∀ a' w', R a' w' → wpList P ops Q l2 a' w') → wpList P ops Q (l1 ++ l2) a w
  | [], l2, a, w, h, k => k a w h
  | o :: l1, l2, a, w, h, k => by
    rw [List.cons_append]
    unfold wpList at h ⊢
    split
    · rename_i hw
      rw [if_pos hw] at h
      rcases h with h | h
      · refine .inl ?_
        unfold Oper.wp at h ⊢
        have h2 := upon_seg h
        exact Oper.wp_mono (o := o) (fun a' w' hh => wpList_seg l1 l2 a' w' hh k) h2
      · exact .inr h
    · rename_i hw
      rw [if_neg hw] at h
      exact wpList_seg l1 l2 _ w h k
/-- Cut behind k operations. -/
theorem wpList_cut {l : List Oper} (k : Nat) (R : Act → World → Act → World → Prop) (h1 : wpList P ops (Seg Q (R a w)) (l.take k) a w) (h2 : ∀ a' w', R a w a' w' → wpList P ops Q (l.drop k) a' w') : wpList P ops Q l a w := by
  have := wpList_seg (l.take k) (l.drop k) a w h1 h2
  rwa [List.take_append_drop] at this
end
end Go.Proofs.YtbincgbgeccccaaGreatDoor
