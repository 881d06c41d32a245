/- Regions that draw their order, walked by hand: an operation that yields its value is taken first, one that isn't wanted is passed over. No condition; no function in sight. -/
import Derived.Test.YtbincgbgeccccaaGreatDoorBase
import Derived.Deep.RegionHeld3
set_option linter.unusedSimpArgs false
set_option linter.unusedVariables false
namespace Go.Proofs.YtbincgbgeccccaaGreatDoor
open Go.RowKit

theorem hq1 {α : Type} {l : List α} {i : Nat} {a : α} : l.toArray.setIfInBounds i a = (l.set i a).toArray := List.setIfInBounds_toArray ..
theorem hq2 {α : Type} {a b : α} {l : List α} : (a :: l).set 0 b = b :: l := rfl
theorem hq3 {α : Type} {a b : α} {l : List α} {i : Nat} : (a :: l).set (i + 1) b = a :: l.set i b := rfl

section
variable {P : Program} {ops : Array Oper} {Q : Exit → Act → World → Prop} {md : Region.Mode} {S : World → Prop}
theorem held_at {i : Nat} {oi : Oper} {rest : List Oper} (hd : ops.toList.drop i = oi :: rest) : ops[i]? = some oi := by
  rw [← Array.getElem?_toList, ← List.head?_drop, hd]; rfl
/-- The beginning, the marks written out. -/
theorem held_begin {id n : Nat} {bs : Array Bool} {a : Act} {w : World} (hn : ops.size = n) (hb : Array.replicate n false = bs) (hm : P.follows .mixedOrders = true) (hS : S w.drew)
    (h : S w.drew → wpAnyH P .any ops Q S n bs a w.drew) : (Code.region id ops true).wp P Q a w := by
  subst hn hb
  exact wp_region_held_drew hm hS h
/-- One that yields its value where S holds. -/
theorem held_take {i : Nat} {oi : Oper} {rest : List Oper} {v : Value} {fuel : Nat} {listed l' : Array Bool} {a a' : Act} {w : World} (hd : ops.toList.drop i = oi :: rest)
    (hs : Region.noSelect ops = true) (hf : Region.free md ops listed i = true) (hr : (Region.ready md ops listed).contains i = true)
    (hQ : ∀ c a w, Q (.panic c) (a.put oi.dst v) w → Q (.panic c) a w) (hw : Region.wanted oi (yielded ops a.tmps) = true) (hv : ∀ w, S w → (execOp a.eval oi).run P w = .ok (.value v) w) (hS : S w)
    (ha : a.put oi.dst v = a') (hl : listed.setIfInBounds i true = l') (h : wpAnyH P md ops Q S fuel l' a' w) : wpAnyH P md ops Q S (fuel + 1) listed a w := by
  subst ha hl
  exact wpAnyH_take (held_at hd) hs hf hr hQ (.inl ⟨hw, hv⟩) hS h
/-- One that isn't wanted. -/
theorem held_skip {i : Nat} {oi : Oper} {rest : List Oper} {fuel : Nat} {listed l' : Array Bool} {a a' : Act} {w : World} (hd : ops.toList.drop i = oi :: rest)
    (hs : Region.noSelect ops = true) (hf : Region.free md ops listed i = true) (hr : (Region.ready md ops listed).contains i = true)
    (hQ : ∀ c a w, Q (.panic c) (a.put oi.dst undef) w → Q (.panic c) a w) (hw : Region.wanted oi (yielded ops a.tmps) = false) (hS : S w)
    (ha : a.put oi.dst undef = a') (hl : listed.setIfInBounds i true = l') (h : wpAnyH P md ops Q S fuel l' a' w) : wpAnyH P md ops Q S (fuel + 1) listed a w := by
  subst ha hl
  exact wpAnyH_take (held_at hd) hs hf hr hQ (.inr ⟨hw, rfl⟩) hS h
/-- The same, what is reckoned left to Lean. -/
theorem held_tk {i : Nat} {oi : Oper} {rest : List Oper} {v : Value} {fuel : Nat} {listed l' : Array Bool} {a a' : Act} {w : World} (h : wpAnyH P md ops Q S fuel l' a' w) (hd : ops.toList.drop i = oi :: rest := by rfl)
    (hs : Region.noSelect ops = true := by kernel_rfl) (hf : Region.free md ops listed i = true := by kernel_rfl) (hr : (Region.ready md ops listed).contains i = true := by kernel_rfl)
    (hQ : ∀ c a w, Q (.panic c) (a.put oi.dst v) w → Q (.panic c) a w := by exact fun _ _ _ h => h) (hw : Region.wanted oi (yielded ops a.tmps) = true := by rfl) (hv : ∀ w, S w → (execOp a.eval oi).run P w = .ok (.value v) w := by (intro w hSw; (try dsimp only at hSw); go_simp; (try with_reducible rfl))) (hS : S w := by assumption)
    (ha : a.put oi.dst v = a' := by ((simp only [Act.put, hq1, hq2, hq3, Option.isNone, Bool.not_true, Bool.not_false]); (try with_reducible rfl))) (hl : listed.setIfInBounds i true = l' := by ((simp only [Act.put, hq1, hq2, hq3, Option.isNone, Bool.not_true, Bool.not_false]); (try with_reducible rfl))) : wpAnyH P md ops Q S (fuel + 1) listed a w :=
  held_take hd hs hf hr hQ hw hv hS ha hl h
theorem held_sk {i : Nat} {oi : Oper} {rest : List Oper} {fuel : Nat} {listed l' : Array Bool} {a a' : Act} {w : World} (h : wpAnyH P md ops Q S fuel l' a' w) (hd : ops.toList.drop i = oi :: rest := by rfl)
    (hs : Region.noSelect ops = true := by kernel_rfl) (hf : Region.free md ops listed i = true := by kernel_rfl) (hr : (Region.ready md ops listed).contains i = true := by kernel_rfl)
    (hQ : ∀ c a w, Q (.panic c) (a.put oi.dst undef) w → Q (.panic c) a w := by exact fun _ _ _ h => h) (hw : Region.wanted oi (yielded ops a.tmps) = false := by rfl) (hS : S w := by assumption)
    (ha : a.put oi.dst undef = a' := by ((simp only [Act.put, hq1, hq2, hq3, Option.isNone, Bool.not_true, Bool.not_false]); (try with_reducible rfl))) (hl : listed.setIfInBounds i true = l' := by ((simp only [Act.put, hq1, hq2, hq3, Option.isNone, Bool.not_true, Bool.not_false]); (try with_reducible rfl))) : wpAnyH P md ops Q S (fuel + 1) listed a w :=
  held_skip hd hs hf hr hQ hw hS ha hl h
/-- One that comes up alone. -/
theorem held_one {i : Nat} {oi : Oper} {rest : List Oper} {fuel : Nat} {listed : Array Bool} {a : Act} {w : World} (hd : ops.toList.drop i = oi :: rest) (hr : Region.ready md ops listed = [i])
    (h : ∀ K' : Act → World → Prop, Shut (∀ a w, S w → (S w → wpAnyH P md ops Q S fuel (listed.setIfInBounds i true) a w) → K' a w) → if Region.wanted oi (yielded ops a.tmps) = true then Oper.wp P oi a w K' Q else K' (a.put oi.dst undef) w) : wpAnyH P md ops Q S (fuel + 1) listed a w :=
  wpAnyH_ready hr (by simp) (AllReadyH.cons (held_at hd) h AllReadyH.nil)
/-- Back into the region behind a call. -/
theorem held_back {fuel : Nat} {l l' : Array Bool} {a a' : Act} {w : World} {K' : Act → World → Prop} (hK : Shut (∀ a w, S w → (S w → wpAnyH P md ops Q S fuel l a w) → K' a w)) (ha : a = a') (hl : l = l') (hS : S w) (h : S w → wpAnyH P md ops Q S fuel l' a' w) : K' a w := by
  subst ha hl
  exact hK.out a w hS h
end
end Go.Proofs.YtbincgbgeccccaaGreatDoor
