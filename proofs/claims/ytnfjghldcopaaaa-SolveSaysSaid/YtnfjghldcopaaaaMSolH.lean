/- Regions that draw their order, walked by hand: an operation that yields its value is taken first, one that isn't wanted is passed over. No condition; no function in sight. -/
import Derived.Test.YtnfjghldcopaaaaRow
import Derived.Test.YtnfjghldcopaaaaBox
import Derived.Test.YtnfjghldcopaaaaBase
import Derived.Deep.RegionHeld3
set_option linter.unusedSimpArgs false
set_option linter.unusedVariables false
namespace Go.Proofs.Ytnfjghldcopaaaa
open Go.RowKit
attribute [local irreducible] wpList

theorem idxF_at {xs : List Bool} {i : Nat} (h : xs[i]? = some true) (hb : ∀ j, j < i → xs[j]? ≠ some true) : idxF true xs = (i : Int) := by
  rcases idxF_spec true xs with ⟨_, e⟩ | ⟨j, e, e2, e3⟩
  · exact absurd (List.mem_of_getElem? h) e
  · rcases Nat.lt_trichotomy i j with h1 | h1 | h1
    · exact absurd h (e3 i h1)
    · rw [e, h1]
    · exact absurd e2 (hb j h1)
theorem idxF_no {xs : List Bool} (hb : ∀ j, j < xs.length → xs[j]? ≠ some true) : idxF true xs = -1 := by
  rcases idxF_spec true xs with ⟨e, _⟩ | ⟨j, _, e2, _⟩
  · exact e
  · exact absurd e2 (hb j (List.getElem?_eq_some_iff.1 e2).1)

set_option maxRecDepth 100000 in
set_option maxHeartbeats 1000000 in
theorem firstOf_any (w : World) (A A2 : Option Addr) (n c n2 c2 : Nat) (xs : List Bool) (h : Sl 1 eBool w (LT w.heap.size) A n xs) (hm : n ≤ lim) :
    Calls Try.prog 62 #[.agg #[.slice A n c, .slice A2 n2 c2]] w fun e w' => e = .returned (.int .i64 (idxF true xs)) ∧ Fr w w' := by
  unfold lim at hm
  obtain ⟨W1, hW1⟩ : ∃ W1, W1 = w.alloc (.cells #[.slice A n c, .slice A2 n2 c2] 29) := ⟨_, rfl⟩
  have HF1 : Hid (Fr w W1) := by rw [hW1]; exact frAlloc _ _
  have hl := h.1
  have H := Lib.hid (h.go sBool HF1.out)
  have HW1 := Lib.hid hW1
  have HL := Lib.hid hl
  clear h hW1 hl
  go_enter Try.func62, Try.ntmps62
  go_wp2_with fail
  rw [← HW1.out]
  clear HW1
  go_loopw [8] (fun s8 wr => ∃ i : Nat, i ≤ n ∧ s8 = .int .i64 i ∧ Hid (∀ j, j < i → xs[j]? ≠ some true) ∧ Hid (Fr W1 wr)) (fun s8 _ => n - (intOf s8).toNat)
  case atStart => exact ⟨0, Nat.zero_le _, rfl, fun j hj => by omega, Below.refl _ _⟩
  case round =>
    obtain ⟨i, hi, rfl, HN, HF⟩ := hrel
    by_cases hlt : i < n
    · obtain ⟨ad, rfl, hE⟩ := (H.out.go sBool HF.out).els (by omega)
      obtain ⟨b, hb, hc⟩ := hE.bool hlt
      cases b with
      | true =>
        have E : Hid (idxF true xs = (i : Int)) := idxF_at hb HN.out
        clear hE hb
        go_wp2_with fail
        go_ret
        exact ⟨retI E.out.symm, HF1.out.trans HF.out⟩
      | false =>
        have HN2 : Hid (∀ j, j < i + 1 → xs[j]? ≠ some true) := fun j hj => by
          by_cases e : j = i
          · subst e; rw [hb]; simp
          · exact HN.out j (by omega)
        clear hE hb
        go_wp2_with fail
        go_roundw
        case rel => exact ⟨i + 1, by omega, by go_num, HN2, HF⟩
        case measure => simp [intOf]; omega
    · obtain rfl : i = n := by omega
      have E : Hid (idxF true xs = -1) := idxF_no (by rw [HL.out]; exact HN.out)
      go_wp2_with fail
      go_ret
      exact ⟨retI E.out.symm, HF1.out.trans HF.out⟩
end Go.Proofs.Ytnfjghldcopaaaa
namespace Go.Proofs.Ytnfjghldcopaaaa
open Go.RowKit

theorem hq1 {α : Type} {l : List α} {i : Nat} {a : α} : l.toArray.setIfInBounds i a = (l.set i a).toArray := List.setIfInBounds_toArray ..
theorem hq2 {α : Type} {a b : α} {l : List α} : (a :: l).set 0 b = b :: l := rfl
theorem hq3 {α : Type} {a b : α} {l : List α} {i : Nat} : (a :: l).set (i + 1) b = a :: l.set i b := rfl

section
variable {P : Program} {ops : Array Oper} {Q : Exit → Act → World → Prop} {md : Region.Mode} {S : World → Prop}
theorem held_at {i : Nat} {oi : Oper} {rest : List Oper} (hd : ops.toList.drop i = oi :: rest) : ops[i]? = some oi := by
  rw [← Array.getElem?_toList, ← List.head?_drop, hd]; rfl
/-- The beginning, the marks written out. -/
theorem held_begin {id n : Nat} {bs : Array Bool} {a : Act} {w : World} (hn : ops.size = n) (hb : Array.replicate n false = bs) (hm : P.follows .mixedOrders = true) (hS : S w.drew)
    (h : S w.drew → wpAnyH P .any ops Q S n bs a w.drew) : (Code.region id ops true).wp P Q a w := by
  subst hn hb
  exact wp_region_held_drew hm hS h
/-- One that yields its value where S holds. -/
theorem held_take {i : Nat} {oi : Oper} {rest : List Oper} {v : Value} {fuel : Nat} {listed l' : Array Bool} {a a' : Act} {w : World} (hd : ops.toList.drop i = oi :: rest)
    (hs : Region.noSelect ops = true) (hf : Region.free md ops listed i = true) (hr : (Region.ready md ops listed).contains i = true)
    (hQ : ∀ c a w, Q (.panic c) (a.put oi.dst v) w → Q (.panic c) a w) (hw : Region.wanted oi (yielded ops a.tmps) = true) (hv : ∀ w, S w → (execOp a.eval oi).run P w = .ok (.value v) w) (hS : S w)
    (ha : a.put oi.dst v = a') (hl : listed.setIfInBounds i true = l') (h : wpAnyH P md ops Q S fuel l' a' w) : wpAnyH P md ops Q S (fuel + 1) listed a w := by
  subst ha hl
  exact wpAnyH_take (held_at hd) hs hf hr hQ (.inl ⟨hw, hv⟩) hS h
/-- One that isn't wanted. -/
theorem held_skip {i : Nat} {oi : Oper} {rest : List Oper} {fuel : Nat} {listed l' : Array Bool} {a a' : Act} {w : World} (hd : ops.toList.drop i = oi :: rest)
    (hs : Region.noSelect ops = true) (hf : Region.free md ops listed i = true) (hr : (Region.ready md ops listed).contains i = true)
    (hQ : ∀ c a w, Q (.panic c) (a.put oi.dst undef) w → Q (.panic c) a w) (hw : Region.wanted oi (yielded ops a.tmps) = false) (hS : S w)
    (ha : a.put oi.dst undef = a') (hl : listed.setIfInBounds i true = l') (h : wpAnyH P md ops Q S fuel l' a' w) : wpAnyH P md ops Q S (fuel + 1) listed a w := by
  subst ha hl
  exact wpAnyH_take (held_at hd) hs hf hr hQ (.inr ⟨hw, rfl⟩) hS h
/-- One that comes up alone. -/
theorem held_one {i : Nat} {oi : Oper} {rest : List Oper} {fuel : Nat} {listed : Array Bool} {a : Act} {w : World} (hd : ops.toList.drop i = oi :: rest) (hr : Region.ready md ops listed = [i])
    (h : ∀ K' : Act → World → Prop, Shut (∀ a w, S w → (S w → wpAnyH P md ops Q S fuel (listed.setIfInBounds i true) a w) → K' a w) → if Region.wanted oi (yielded ops a.tmps) = true then Oper.wp P oi a w K' Q else K' (a.put oi.dst undef) w) : wpAnyH P md ops Q S (fuel + 1) listed a w :=
  wpAnyH_ready hr (by simp) (AllReadyH.cons (held_at hd) h AllReadyH.nil)
/-- Back into the region behind a call. -/
theorem held_back {fuel : Nat} {l l' : Array Bool} {a a' : Act} {w : World} {K' : Act → World → Prop} (hK : Shut (∀ a w, S w → (S w → wpAnyH P md ops Q S fuel l a w) → K' a w)) (ha : a = a') (hl : l = l') (hS : S w) (h : S w → wpAnyH P md ops Q S fuel l' a' w) : K' a w := by
  subst ha hl
  exact hK.out a w hS h
end
end Go.Proofs.Ytnfjghldcopaaaa
