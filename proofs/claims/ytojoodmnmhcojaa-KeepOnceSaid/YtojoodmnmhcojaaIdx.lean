/- Contracts of slices.Index and slices.Contains at ints and bools. No condition. -/
import Derived.Test.YtojoodmnmhcojaaBase
set_option linter.unusedSimpArgs false
set_option linter.unusedVariables false
namespace Go.Proofs.Ytojoodmnmhcojaa
open Go.RowKit
attribute [local irreducible] wpList

def idxAux {α : Type} [DecidableEq α] (x : α) : List α → Nat → Int
  | [], _ => -1
  | y :: l, k => if x = y then (k : Int) else idxAux x l (k + 1)
/-- Where it stands first; -1: nowhere. -/
def idxF {α : Type} [DecidableEq α] (x : α) (l : List α) : Int := idxAux x l 0
theorem idxAux_drop {α : Type} [DecidableEq α] {x y : α} {l : List α} {k : Nat} (h : l[k]? = some y) : idxAux x (l.drop k) k = if x = y then (k : Int) else idxAux x (l.drop (k + 1)) (k + 1) := by
  rw [drop_cons h]; rfl
theorem idxAux_spec {α : Type} [DecidableEq α] (x : α) : ∀ (l : List α) (k : Nat), (idxAux x l k = -1 ∧ x ∉ l) ∨ (∃ j : Nat, idxAux x l k = ((k + j : Nat) : Int) ∧ l[j]? = some x ∧ ∀ i, i < j → l[i]? ≠ some x)
  | [], k => .inl ⟨rfl, by simp⟩
  | y :: l, k => by
    unfold idxAux
    by_cases h : x = y
    · subst h
      exact .inr ⟨0, by rw [if_pos rfl]; simp, rfl, fun i hi => by omega⟩
    · rw [if_neg h]
      rcases idxAux_spec x l (k + 1) with ⟨h1, h2⟩ | ⟨j, h1, h2, h3⟩
      · exact .inl ⟨h1, by simp [h, h2]⟩
      · refine .inr ⟨j + 1, by rw [h1]; congr 1; omega, by simpa using h2, fun i hi => ?_⟩
        cases i with
        | zero => simpa using fun e => h e.symm
        | succ i => simpa using h3 i (by omega)
theorem idxF_spec {α : Type} [DecidableEq α] (x : α) (l : List α) : (idxF x l = -1 ∧ x ∉ l) ∨ (∃ j : Nat, idxF x l = (j : Int) ∧ l[j]? = some x ∧ ∀ i, i < j → l[i]? ≠ some x) := by
  rcases idxAux_spec x l 0 with h | ⟨j, h1, h2⟩
  · exact .inl h
  · exact .inr ⟨j, by unfold idxF; rw [h1]; simp, h2⟩
theorem idxF_ge {α : Type} [DecidableEq α] (x : α) (l : List α) : decide (0 ≤ idxF x l) = decide (x ∈ l) := by
  rcases idxF_spec x l with ⟨h1, h2⟩ | ⟨j, h1, h2, _⟩
  · rw [h1]; simp [h2]
  · rw [h1]
    have := List.mem_of_getElem? h2
    simp [this]
theorem idxF_bd {α : Type} [DecidableEq α] (x : α) (l : List α) : -1 ≤ idxF x l ∧ idxF x l < (l.length : Int) := by
  rcases idxF_spec x l with ⟨h1, h2⟩ | ⟨j, h1, h2, _⟩
  · rw [h1]; omega
  · rw [h1]
    have := (List.getElem?_eq_some_iff.1 h2).1
    omega

set_option maxHeartbeats 400000 in
theorem indexBool_any (w : World) (S : Nat → Prop) (A : Option Addr) (n c : Nat) (xs : List Bool) (h : Sl 1 eBool w S A n xs) (hm : n ≤ maxLen) :
    Calls Try.prog 79 #[.slice A n c, .bool true] w fun e w' => e = .returned (.int .i64 (idxF true xs)) ∧ w = w' := by
  unfold maxLen at hm
  have H := Lib.hid h
  clear h
  go_enter Try.func79, Try.ntmps79
  go_wp2_with fail
  go_loop [8] (fun i => ∃ k : Nat, k ≤ n ∧ i = .int .i64 k ∧ Hid (idxF true xs = idxAux true (xs.drop k) k)) (fun i => n - (intOf i).toNat)
  case atStart => exact ⟨0, Nat.zero_le _, rfl, rfl⟩
  case round =>
    obtain ⟨k, hk, rfl, HS⟩ := hrel
    by_cases hlt : k < n
    · obtain ⟨ad, rfl, hE⟩ := H.out.els (by omega)
      obtain ⟨b, hb, hc⟩ := hE.bool hlt
      have HS' : Hid (idxF true xs = if true = b then (k : Int) else idxAux true (xs.drop (k + 1)) (k + 1)) := by rw [Hid, HS.out, idxAux_drop hb]
      clear HS hb hE
      cases b with
      | true =>
        have HR : Hid (idxF true xs = (k : Int)) := by rw [Hid, HS'.out, if_pos rfl]
        clear HS'
        go_wp2_with fail
        go_ret
        exact ⟨retI HR.out.symm, rfl⟩
      | false =>
        have HR : Hid (idxF true xs = idxAux true (xs.drop (k + 1)) (k + 1)) := by rw [Hid, HS'.out, if_neg (by simp)]
        clear HS'
        go_wp2_with fail
        go_round
        case rel => exact ⟨k + 1, by omega, by go_num, HR⟩
        case measure => simp [intOf]; omega
    · have HF : Hid (idxF true xs = -1) := by
        have h1 := H.out.1
        rw [Hid, HS.out, List.drop_eq_nil_of_le (by omega)]; rfl
      go_wp2_with fail
      go_ret
      exact ⟨retI HF.out.symm, rfl⟩
theorem containsBool_any (w : World) (S : Nat → Prop) (A : Option Addr) (n c : Nat) (xs : List Bool) (h : Sl 1 eBool w S A n xs) (hm : n ≤ maxLen) :
    Calls Try.prog 74 #[.slice A n c, .bool true] w fun e w' => e = .returned (.bool (decide (true ∈ xs))) ∧ w = w' := by
  have E := Lib.hid (idxF_ge true xs)
  have H := Lib.hid h
  clear h
  go_enter Try.func74, Try.ntmps74
  go_wp2_with fail
  refine (indexBool_any _ S _ _ _ xs H.out hm).mono ?_
  rintro e w' ⟨rfl, rfl⟩
  go_wp2_with fail
  go_ret
  exact ⟨retB E.out, rfl⟩
end Go.Proofs.Ytojoodmnmhcojaa
