/- Plain laws of symbols. No condition; no program in sight. -/
import Derived.Test.YtbincgbgeccccaaGreatDoorPick
import Derived.Test.YtbincgbgeccccaaGreatDoorCut
import Derived.Test.YtbincgbgeccccaaGreatDoorSum
set_option linter.unusedSimpArgs false
set_option linter.unusedVariables false
namespace Go.Proofs.YtbincgbgeccccaaGreatDoor

/-- Those that are in. -/
def sel {α : Type} (has : List Bool) (bl : List α) : List α := ((has.zip bl).filter (·.1)).map (·.2)
theorem sel_take {α : Type} {has : List Bool} {bl : List α} {k : Nat} {b : Bool} {x : α} (hb : has[k]? = some b) (hx : bl[k]? = some x) :
    sel (has.take (k + 1)) (bl.take (k + 1)) = sel (has.take k) (bl.take k) ++ if b then [x] else [] := by
  have h1 := (List.getElem?_eq_some_iff.1 hb).1
  have h2 := (List.getElem?_eq_some_iff.1 hx).1
  unfold sel
  rw [take_snoc' hb, take_snoc' hx, List.zip_append (by simp; omega), List.filter_append, List.map_append]
  cases b <;> simp
theorem sel_mem {α : Type} {has : List Bool} {bl : List α} {x : α} (h : x ∈ sel has bl) : x ∈ bl := by
  unfold sel at h
  obtain ⟨p, hp, rfl⟩ := List.mem_map.1 h
  exact (List.of_mem_zip (List.mem_filter.1 hp).1).2
theorem length_sel {α : Type} : ∀ {has : List Bool} {bl : List α}, has.length = bl.length → (sel has bl).length = cnt has
  | [], [], _ => rfl
  | a :: r, x :: s, h => by
    have ih := length_sel (has := r) (bl := s) (by simpa using h)
    unfold sel at ih ⊢
    cases a
    · simpa [cnt] using ih
    · simp [cnt] at ih ⊢; omega

/-- What code.Make answers. -/
def makeSym (B K : Int) (c : List UInt8) (id : Int) : (Int × List UInt8) × Int :=
  if (cutUp B K c).2 ≠ 0 then ((0, []), (cutUp B K c).2)
  else if (pickOf id (cutUp B K c).1.length).2 ≠ 0 then ((0, []), (pickOf id (cutUp B K c).1.length).2)
  else ((id, xorAll K.toNat (sel (pickOf id (cutUp B K c).1.length).1 (cutUp B K c).1)), 0)

theorem makeSym_ok {B K : Nat} {c : List UInt8} {id : Int} (h : cutCheck B K = 0) (hl : c.length = B) (hid : 0 ≤ id ∧ id ≤ 9999) :
    makeSym B K c id = ((id, xorAll K (sel (pickHas id.toNat (cutF K B c).length) (cutF K B c))), 0) := by
  have h1 := cutUp_ok h hl
  obtain ⟨h2, h3, _⟩ := cutF_count h hl
  have h4 : pickOf id ((cutF K B c).length : Nat) = (pickHas id.toNat (cutF K B c).length, 0) := by
    unfold pickOf
    rw [if_pos (by omega), Int.toNat_natCast]
  unfold makeSym
  rw [h1]
  simp only [ne_eq, not_true_eq_false, if_false, h4, Int.toNat_natCast]

/-- The sum of those that are in. -/
theorem sel_add {B K i : Nat} {c : List UInt8} (h : cutCheck B K = 0) (hl : c.length = B) :
    sumAdd (sel (pickHas i (cutF K B c).length) (cutF K B c)) = (xorAll K (sel (pickHas i (cutF K B c).length) (cutF K B c)), 0) := by
  obtain ⟨h1, h2, h3, h4, h5⟩ := cutCheck_ok h
  obtain ⟨q1, q2, _⟩ := cutF_count h hl
  have hall : ∀ y ∈ sel (pickHas i (cutF K B c).length) (cutF K B c), y.length = K := fun y hy => cutF_all (by omega) B c y (sel_mem hy)
  have hlen : 0 < (sel (pickHas i (cutF K B c).length) (cutF K B c)).length := by
    rw [length_sel (length_pickHas _ _)]; exact (cnt_pickHas _ _ q1 q2).1
  generalize sel (pickHas i (cutF K B c).length) (cutF K B c) = l at *
  have hd : (l.headD []).length = K := by
    cases l with
    | nil => simp at hlen
    | cons y r => exact hall y (by simp)
  have hc : sumCheck l = 0 := by unfold sumCheck; rw [hd]; exact sumCheckFrom_of (by omega) (by omega) hall
  unfold sumAdd
  rw [if_neg (by simp [hc]), if_neg (by omega), hd]
end Go.Proofs.YtbincgbgeccccaaGreatDoor
