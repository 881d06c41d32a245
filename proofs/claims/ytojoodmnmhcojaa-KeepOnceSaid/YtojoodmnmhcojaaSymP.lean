/- Plain laws of the symbols of a cargo. No condition; no program in sight. -/
import Derived.Test.YtojoodmnmhcojaaCodeP
import Derived.Test.YtojoodmnmhcojaaAddP
import Derived.Test.YtojoodmnmhcojaaSt
set_option linter.unusedSimpArgs false
set_option linter.unusedVariables false
namespace Go.Proofs.Ytojoodmnmhcojaa

/-- The symbol of an id, brought within bounds, if there is one. -/
def symOpt (B K : Int) (c : List UInt8) (id : Int) : List Sm := if (makeSym B K c (id % 10000)).2 = 0 then [⟨(makeSym B K c (id % 10000)).1.1, (makeSym B K c (id % 10000)).1.2⟩] else []
def symsOf (B K : Int) (c : List UInt8) (ids : List Int) : List Sm := (ids.take 60).flatMap (symOpt B K c)
theorem length_symOpt (B K : Int) (c : List UInt8) (id : Int) : (symOpt B K c id).length ≤ 1 := by unfold symOpt; split <;> simp
theorem length_flat (B K : Int) (c : List UInt8) : ∀ l : List Int, (l.flatMap (symOpt B K c)).length ≤ l.length
  | [] => by simp
  | a :: l => by
    have := length_symOpt B K c a
    have := length_flat B K c l
    simp only [List.flatMap_cons, List.length_append, List.length_cons]
    omega
theorem length_symsOf (B K : Int) (c : List UInt8) (ids : List Int) : (symsOf B K c ids).length ≤ 60 := by
  have := length_flat B K c (ids.take 60)
  unfold symsOf
  have h2 : (ids.take 60).length ≤ 60 := by simp; omega
  omega
theorem flat_snoc {B K : Int} {c : List UInt8} {l : List Int} {k : Nat} {id : Int} (h : l[k]? = some id) : (l.take (k + 1)).flatMap (symOpt B K c) = (l.take k).flatMap (symOpt B K c) ++ symOpt B K c id := by
  rw [take_snoc' h, List.flatMap_append]; simp
/-- A symbol that is made, is right. -/
structure SymOk (B K : Nat) (c : List UInt8) (s : Sm) : Prop where
  id : 0 ≤ s.id ∧ s.id ≤ 9999
  data : s.data = xorAll K (sel (pickHas s.id.toNat (cutF K B c).length) (cutF K B c))
theorem symOpt_ok {B K : Nat} {c : List UInt8} (h : cutCheck B K = 0) (hl : c.length = B) (id : Int) : ∃ s, symOpt B K c id = [s] ∧ s.id = id % 10000 ∧ SymOk B K c s := by
  have hid : 0 ≤ id % 10000 ∧ id % 10000 ≤ 9999 := by omega
  have e := makeSym_ok (id := id % 10000) h hl hid
  unfold symOpt
  rw [e, if_pos rfl]
  exact ⟨_, rfl, rfl, ⟨hid, rfl⟩⟩
theorem symsOf_ok {B K : Nat} {c : List UInt8} (h : cutCheck B K = 0) (hl : c.length = B) (ids : List Int) : ∀ s ∈ symsOf B K c ids, SymOk B K c s := by
  intro s hs
  obtain ⟨id, _, h2⟩ := List.mem_flatMap.1 hs
  obtain ⟨s', e, _, h3⟩ := symOpt_ok h hl id
  rw [e] at h2
  obtain rfl := List.mem_singleton.1 h2
  exact h3
theorem symsOf_len {B K : Nat} {c : List UInt8} (h : cutCheck B K = 0) (hl : c.length = B) (ids : List Int) : (symsOf B K c ids).length = min ids.length 60 := by
  have : ∀ l : List Int, (l.flatMap (symOpt B K c)).length = l.length := by
    intro l
    induction l with
    | nil => rfl
    | cons a l ih =>
      obtain ⟨s, e, _⟩ := symOpt_ok h hl a
      simp only [List.flatMap_cons, List.length_append, List.length_cons, e, ih, List.length_nil]
      omega
  unfold symsOf
  rw [this, List.length_take]; omega
theorem symsOf_bad {B K : Int} {c : List UInt8} (h : (cutUp B K c).2 ≠ 0) (ids : List Int) : symsOf B K c ids = [] := by
  have : ∀ id, symOpt B K c id = [] := fun id => by
    unfold symOpt makeSym
    rw [if_pos h, if_neg h]
  unfold symsOf
  rw [List.flatMap_eq_nil_iff]
  exact fun id _ => this id
end Go.Proofs.Ytojoodmnmhcojaa
