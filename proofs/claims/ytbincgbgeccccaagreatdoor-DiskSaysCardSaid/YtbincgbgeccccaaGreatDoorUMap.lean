/- Maps from ints to strings. No condition. -/
import Derived.Test.YtbincgbgeccccaaGreatDoorStr
import Derived.Test.YtbincgbgeccccaaGreatDoorChg
import Derived.Maps.Views
import Derived.Maps.OwnSet
import Derived.Maps.StringElems
import Derived.DeepKeys4
import Derived.KernelRfl
set_option maxRecDepth 100000
set_option linter.unusedSimpArgs false
set_option linter.unusedVariables false
namespace Go.Proofs.YtbincgbgeccccaaGreatDoor
open Go.RowKit Go.Maps

theorem intKeyed : Keyed Tryz.prog 3 := int_keyed Tryz.underlying3
/-- Block b is a map of at most n ints that says F. -/
def UMap (w : World) (b n : Nat) (F : Int → Option (List UInt8)) : Prop :=
  ∃ D : DataW Unit, IsMap D ∧ w.ownsMap Tryz.prog 3 (plainElem Tryz.prog 9) b n D ∧ ∀ k, wfI k → D.atKey (.int .i64 k) (.lit (.string [])) = .lit (.string ((F k).getD [])) ∧ has D (.int .i64 k) = (F k).isSome
theorem umap_made (w : World) : UMap (w.alloc (.map #[] 0)) w.heap.size 0 fun _ => none :=
  ⟨.map [], isMap_empty, World.ownsMap_made w _ _ _, fun k hw => ⟨rfl, rfl⟩⟩
theorem UMap.kept {w w' : World} {b n : Nat} {F : Int → Option (List UInt8)} (h : UMap w b n F) (k : Fr w w') : UMap w' b n F := by
  obtain ⟨D, h1, ⟨es, cl, hb, F', hs, hD⟩, h3⟩ := h
  exact ⟨D, h1, ⟨es, cl, blk_go hb k, F', hs, hD⟩, h3⟩
theorem keyOf_i64 {k : Int} (h : wfI k) : keyOf Tryz.prog 3 (.int .i64 k) = some (.int .i64 k) := keyOf_int_mk Tryz.underlying3 h
theorem UMap.look {w : World} {b n : Nat} {F : Int → Option (List UInt8)} (hm : UMap w b n F) (k : Int) (hk : wfI k) : (Instr.lookup 101 (.map (some b)) (.int .i64 k) true).run Tryz.prog w = .ok (.tuple #[sV ((F k).getD []), .bool (F k).isSome]) w := by
  obtain ⟨D, h1, h2, h3⟩ := hm
  obtain ⟨v, ps, hrun, hv⟩ := h2.look_ok (t := 101) (e := 9) intKeyed Tryz.underlying101 (z := .string ⟨#[]⟩) (zd := .lit (.string [])) (zp := []) (by kernel_rfl) (plainElem_string Tryz.underlying9 (by decide)) (keyOf_i64 hk)
  rw [(h3 k hk).1] at hv
  obtain ⟨s, rfl, hs, _⟩ := plainElem_string_inv Tryz.underlying9 hv
  simp only [Prod.mk.injEq, DataW.lit.injEq, Lit.string.injEq] at hs
  rw [hrun, (h3 k hk).2]
  have : (Value.string s) = sV ((F k).getD []) := by
    rw [hs.1]
  rw [this]
theorem UMap.put {w : World} {b n : Nat} {F : Int → Option (List UInt8)} (hm : UMap w b n F) (k : Int) (hk : wfI k) (hn : n < maxLen) (x : List UInt8) (hx : x.length ≤ 100) : ∃ w', (Instr.mapUpdate 101 (.map (some b)) (.int .i64 k) (sV x)).run Tryz.prog w = .ok () w' ∧ UMap w' b (n + 1) (fun y => if y = k then some x else F y) ∧ w.grownBy w' (some b) := by
  obtain ⟨D, h1, h2, h3⟩ := hm
  obtain ⟨w', hrun, ho, hg⟩ := h2.update (t := 101) (e := 9) (val := sV x) intKeyed Tryz.underlying101 hn (keyOf_i64 hk) (plainElem_string (s := ⟨x.toArray⟩) Tryz.underlying9 (by show x.toArray.size ≤ maxLen; simp; unfold maxLen; omega))
  refine ⟨w', hrun, ⟨_, h1.put _ _, ho, fun y hy => ?_⟩, hg⟩
  by_cases e : y = k
  · subst e
    rw [atKey_put_same h1 (intKeyed.key (keyOf_i64 hy)), has_put_same h1 (intKeyed.key (keyOf_i64 hy))]; simp
  · have hne : (Lit.int .i64 y) ≠ .int .i64 k := fun e2 => e (by injection e2)
    rw [atKey_put_other hne, has_put_other hne]; simp only [if_neg e]
    exact h3 y hy
end Go.Proofs.YtbincgbgeccccaaGreatDoor
