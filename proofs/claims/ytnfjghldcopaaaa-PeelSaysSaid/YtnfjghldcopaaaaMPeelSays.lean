/- 'PeelSays' answers true for every input, and leaves its arguments as they were. No condition. -/
import Derived.Test.YtnfjghldcopaaaaNeverP
import Derived.Test.YtnfjghldcopaaaaKnown
import Derived.Test.YtnfjghldcopaaaaApp
import Derived.Test.YtnfjghldcopaaaaChg
import Derived.Lib.LazyBuf
import Derived.Test.YtnfjghldcopaaaaPick
import Derived.Test.YtnfjghldcopaaaaCode
import Derived.Test.YtnfjghldcopaaaaBox
import Derived.Test.YtnfjghldcopaaaaSyms
import Derived.StillTailTactics
import Derived.Deep.RegionHeld3
import Derived.Deep.DeepCutAuto
import Derived.Deep.Cut
import Derived.Test.YtnfjghldcopaaaaDecF
import Derived.Test.YtnfjghldcopaaaaCut
import Derived.Deep.RegionLaw
import Derived.Test.YtnfjghldcopaaaaEq
import Derived.Test.YtnfjghldcopaaaaPickP
import Derived.Test.YtnfjghldcopaaaaIdx
import Derived.Test.YtnfjghldcopaaaaSum
import Derived.Test.YtnfjghldcopaaaaShelfB
import Derived.Sort.OwnSortedInts
import Derived.Deep.CutBlock
import Derived.Test.YtnfjghldcopaaaaDel
import Derived.Laws.ShiftsVarLaws
import Derived.Test.YtnfjghldcopaaaaCodeP
import Derived.Test.YtnfjghldcopaaaaConcat
import Derived.Deep.RegionWith
import Derived.Test.YtnfjghldcopaaaaOpen
import Derived.Test.YtnfjghldcopaaaaOpenR
set_option linter.unusedSimpArgs false
set_option linter.unusedVariables false
namespace Go.Proofs.Ytnfjghldcopaaaa

/-- What is known of each block. -/
abbrev Kn := List (Option (List UInt8))
def Kn.isK (kn : Kn) (k : Nat) : Bool := (kn.getD k none).isSome
/-- Which of the first so many blocks that are in aren't known; the ones that are. -/
def miss (has : List Bool) (kn : Kn) (m : Nat) : List Nat := (List.range m).filter fun k => has.getD k false && !kn.isK k
def got (has : List Bool) (kn : Kn) (m : Nat) : List (List UInt8) := (List.range m).filterMap fun k => if has.getD k false then kn.getD k none else none
theorem miss_succ (has : List Bool) (kn : Kn) (m : Nat) : miss has kn (m + 1) = miss has kn m ++ if has.getD m false && !kn.isK m then [m] else [] := by
  unfold miss
  rw [List.range_succ, List.filter_append]
  congr 1
  cases h : (has.getD m false && !kn.isK m) <;> simp only [List.filter, h, if_true, Bool.false_eq_true, if_false]
theorem got_succ (has : List Bool) (kn : Kn) (m : Nat) : got has kn (m + 1) = got has kn m ++ (if has.getD m false then (kn.getD m none).toList else []) := by
  unfold got
  rw [List.range_succ, List.filterMap_append]
  congr 1
  cases h : has.getD m false <;> cases h2 : kn.getD m none <;> simp only [List.filterMap, h, h2, if_true, Bool.false_eq_true, if_false, Option.toList]
theorem got_mem {has : List Bool} {kn : Kn} {m : Nat} {l : List UInt8} (h : l ∈ got has kn m) : ∃ k : Nat, kn[k]? = some (some l) := by
  obtain ⟨k, _, hk⟩ := List.mem_filterMap.1 h
  refine ⟨k, ?_⟩
  split at hk
  · rw [List.getD_eq_getElem?_getD] at hk
    cases h2 : kn[k]? with
    | none => rw [h2] at hk; simp at hk
    | some x => rw [h2] at hk; simp at hk; rw [hk]
  · cases hk
theorem length_got (has : List Bool) (kn : Kn) (m : Nat) : (got has kn m).length ≤ m := by
  have := List.length_filterMap_le (fun k => if has.getD k false then kn.getD k none else none) (List.range m)
  simpa [got] using this
theorem length_miss (has : List Bool) (kn : Kn) (m : Nat) : (miss has kn m).length ≤ m := by
  have := List.length_filter_le (fun k => has.getD k false && !kn.isK k) (List.range m)
  simpa [miss] using this
/-- All that is known is as long as a block. -/
def KnLen (K : Nat) (kn : Kn) : Prop := ∀ (k : Nat) l, kn[k]? = some (some l) → l.length = K
/-- What a symbol with one block unknown tells. -/
def told (has : List Bool) (d : List UInt8) (kn : Kn) : List UInt8 := (sumAdd (d :: got has kn kn.length)).1
/-- One symbol. -/
def pOne (kn : Kn) (x : Sm) : Kn × List Sm × Bool :=
  if (miss (pickHas x.id.toNat kn.length) kn kn.length).length = 1 then (kn.set ((miss (pickHas x.id.toNat kn.length) kn kn.length).getLastD 0) (some (told (pickHas x.id.toNat kn.length) x.data kn)), [], true)
  else if 1 < (miss (pickHas x.id.toNat kn.length) kn kn.length).length then (kn, [x], false) else (kn, [], false)
def pRound : Kn → List Sm → Kn × List Sm × Bool
  | kn, [] => (kn, [], false)
  | kn, x :: xs => ((pRound (pOne kn x).1 xs).1, (pOne kn x).2.1 ++ (pRound (pOne kn x).1 xs).2.1, (pOne kn x).2.2 || (pRound (pOne kn x).1 xs).2.2)
def pRun : Nat → Kn → List Sm → Kn
  | 0, kn, _ => kn
  | f + 1, kn, xs => if (pRound kn xs).2.2 then pRun f (pRound kn xs).1 (pRound kn xs).2.1 else (pRound kn xs).1
def peelF (b : Nat) (xs : List Sm) : Kn := pRun (b + 1) (List.replicate b none) xs

theorem isK_set {kn : Kn} {a k : Nat} {l : List UInt8} (ha : a < kn.length) : Kn.isK (kn.set a (some l)) k = (kn.isK k || decide (k = a)) := by
  unfold Kn.isK
  rw [List.getD_eq_getElem?_getD, List.getD_eq_getElem?_getD, List.getElem?_set]
  by_cases h : a = k
  · subst h; simp [ha]
  · have h' : ¬ k = a := fun e => h e.symm
    simp [h, h']
theorem isK_iff {kn : Kn} {k : Nat} : kn.isK k = true ↔ ∃ l, kn[k]? = some (some l) := by
  unfold Kn.isK
  rw [List.getD_eq_getElem?_getD]
  cases h : kn[k]? with
  | none => simp
  | some x => cases x <;> simp
theorem isK_lt {kn : Kn} {k : Nat} (h : kn.isK k = true) : k < kn.length := by
  obtain ⟨l, h⟩ := isK_iff.1 h
  exact (List.getElem?_eq_some_iff.1 h).1
theorem mem_miss {has : List Bool} {kn : Kn} {m k : Nat} : k ∈ miss has kn m ↔ k < m ∧ has.getD k false = true ∧ kn.isK k = false := by
  simp [miss]
/-- The one that is lacking. -/
theorem one_miss {has : List Bool} {kn : Kn} {m : Nat} (h : (miss has kn m).length = 1) : ∃ a, miss has kn m = [a] ∧ (miss has kn m).getLastD 0 = a ∧ a < m ∧ has.getD a false = true ∧ kn.isK a = false := by
  obtain ⟨a, e⟩ := List.length_eq_one_iff.1 h
  refine ⟨a, e, by rw [e]; rfl, ?_⟩
  exact mem_miss.1 (by rw [e]; simp)
theorem miss_le {has : List Bool} {kn kn' : Kn} {m : Nat} (h : ∀ k, kn.isK k = true → kn'.isK k = true) : (miss has kn' m).length ≤ (miss has kn m).length := by
  unfold miss
  rw [← List.countP_eq_length_filter, ← List.countP_eq_length_filter]
  refine List.countP_mono_left fun k _ hk => ?_
  simp only [Bool.and_eq_true, Bool.not_eq_true'] at hk ⊢
  refine ⟨hk.1, ?_⟩
  cases e : kn.isK k with
  | false => rfl
  | true => rw [h k e] at hk; exact absurd hk.2 (by simp)

theorem pOne_cases (kn : Kn) (x : Sm) :
    (∃ a, (miss (pickHas x.id.toNat kn.length) kn kn.length) = [a] ∧ a < kn.length ∧ (pickHas x.id.toNat kn.length).getD a false = true ∧ kn.isK a = false ∧ pOne kn x = (kn.set a (some (told (pickHas x.id.toNat kn.length) x.data kn)), [], true)) ∨
    (1 < (miss (pickHas x.id.toNat kn.length) kn kn.length).length ∧ pOne kn x = (kn, [x], false)) ∨ ((miss (pickHas x.id.toNat kn.length) kn kn.length).length = 0 ∧ pOne kn x = (kn, [], false)) := by
  unfold pOne
  by_cases h1 : (miss (pickHas x.id.toNat kn.length) kn kn.length).length = 1
  · obtain ⟨a, e, e2, h3, h4, h5⟩ := one_miss h1
    exact .inl ⟨a, e, h3, h4, h5, by rw [if_pos h1, e2]⟩
  · rw [if_neg h1]
    by_cases h2 : 1 < (miss (pickHas x.id.toNat kn.length) kn kn.length).length
    · exact .inr (.inl ⟨h2, if_pos h2⟩)
    · exact .inr (.inr ⟨by omega, if_neg h2⟩)
theorem pOne_len (kn : Kn) (x : Sm) : (pOne kn x).1.length = kn.length := by
  rcases pOne_cases kn x with ⟨a, _, _, _, _, e⟩ | ⟨_, e⟩ | ⟨_, e⟩ <;> rw [e] <;> simp
theorem pRound_len : ∀ (xs : List Sm) (kn : Kn), (pRound kn xs).1.length = kn.length
  | [], _ => rfl
  | x :: xs, kn => by rw [pRound]; show (pRound (pOne kn x).1 xs).1.length = _; rw [pRound_len xs, pOne_len]
theorem pOne_grows {kn : Kn} {x : Sm} {k : Nat} (h : kn.isK k = true) : (pOne kn x).1.isK k = true := by
  rcases pOne_cases kn x with ⟨a, _, ha, _, _, e⟩ | ⟨_, e⟩ | ⟨_, e⟩
  · rw [e]; show Kn.isK (kn.set a _) k = true; rw [isK_set ha, h]; rfl
  · rw [e]; exact h
  · rw [e]; exact h
theorem pRound_grows : ∀ {xs : List Sm} {kn : Kn} {k : Nat}, kn.isK k = true → (pRound kn xs).1.isK k = true
  | [], _, _, h => h
  | x :: xs, kn, k, h => pRound_grows (xs := xs) (pOne_grows h)
theorem pRound_left : ∀ {xs : List Sm} {kn : Kn} {y : Sm}, y ∈ (pRound kn xs).2.1 → y ∈ xs
  | [], _, _, h => h
  | x :: xs, kn, y, h => by
    rcases List.mem_append.1 (show y ∈ (pOne kn x).2.1 ++ _ from h) with h | h
    · rcases pOne_cases kn x with ⟨a, _, _, _, _, e⟩ | ⟨_, e⟩ | ⟨_, e⟩ <;> rw [e] at h <;> simp at h
      subst h; simp
    · exact List.mem_cons_of_mem _ (pRound_left h)
theorem pRound_left_len : ∀ (xs : List Sm) (kn : Kn), (pRound kn xs).2.1.length ≤ xs.length
  | [], _ => Nat.le_refl _
  | x :: xs, kn => by
    have := pRound_left_len xs (pOne kn x).1
    rw [pRound]
    show ((pOne kn x).2.1 ++ (pRound (pOne kn x).1 xs).2.1).length ≤ _
    rcases pOne_cases kn x with ⟨a, _, _, _, _, e⟩ | ⟨_, e⟩ | ⟨_, e⟩ <;> rw [e] at this ⊢ <;> dsimp only at this ⊢ <;> simp only [List.nil_append, List.cons_append, List.length_cons] <;> omega
/-- How many aren't known yet. -/
def nones (kn : Kn) : Nat := kn.countP fun x => x.isNone
theorem nones_set {kn : Kn} {a : Nat} {l : List UInt8} (ha : a < kn.length) (h : kn.isK a = false) : nones (kn.set a (some l)) + 1 = nones kn := by
  unfold nones
  rw [List.countP_set ha]
  have h1 : kn[a] = none := by
    unfold Kn.isK at h
    rw [List.getD_eq_getElem?_getD, List.getElem?_eq_getElem ha] at h
    simpa using h
  have h2 : 0 < kn.countP fun x => x.isNone := List.countP_pos_iff.2 ⟨kn[a], List.getElem_mem ha, by rw [h1]; rfl⟩
  simp [h1]
  omega
theorem pOne_nones (kn : Kn) (x : Sm) : nones (pOne kn x).1 + (if (pOne kn x).2.2 then 1 else 0) = nones kn := by
  rcases pOne_cases kn x with ⟨a, _, ha, _, h, e⟩ | ⟨_, e⟩ | ⟨_, e⟩
  · rw [e]; exact nones_set ha h
  · rw [e]; rfl
  · rw [e]; rfl
theorem pRound_nones : ∀ (xs : List Sm) (kn : Kn), nones (pRound kn xs).1 + (if (pRound kn xs).2.2 then 1 else 0) ≤ nones kn
  | [], _ => Nat.le_refl _
  | x :: xs, kn => by
    have h1 := pOne_nones kn x
    have h2 := pRound_nones xs (pOne kn x).1
    rw [pRound]
    show nones (pRound (pOne kn x).1 xs).1 + (if ((pOne kn x).2.2 || (pRound (pOne kn x).1 xs).2.2) then 1 else 0) ≤ _
    cases e1 : (pOne kn x).2.2 <;> cases e2 : (pRound (pOne kn x).1 xs).2.2 <;> simp [e1, e2] at h1 h2 ⊢ <;> omega
/-- Nothing that came: all is as it was, and no symbol has one unknown. -/
theorem pRound_still : ∀ {xs : List Sm} {kn : Kn}, (pRound kn xs).2.2 = false → (pRound kn xs).1 = kn ∧ ∀ x ∈ xs, (miss (pickHas x.id.toNat kn.length) kn kn.length).length ≠ 1
  | [], _, _ => ⟨rfl, fun _ h => by cases h⟩
  | x :: xs, kn, h => by
    rw [pRound] at h ⊢
    obtain ⟨h1, h2⟩ := Bool.or_eq_false_iff.1 h
    obtain ⟨e, h3⟩ := pRound_still h2
    rcases pOne_cases kn x with ⟨a, _, _, _, _, e1⟩ | ⟨hm, e1⟩ | ⟨hm, e1⟩
    · rw [e1] at h1; cases h1
    · rw [e1] at e h3
      refine ⟨by show (pRound (pOne kn x).1 xs).1 = kn; rw [e1]; exact e, fun y hy => ?_⟩
      rcases List.mem_cons.1 hy with rfl | hy
      · omega
      · exact h3 y hy
    · rw [e1] at e h3
      refine ⟨by show (pRound (pOne kn x).1 xs).1 = kn; rw [e1]; exact e, fun y hy => ?_⟩
      rcases List.mem_cons.1 hy with rfl | hy
      · omega
      · exact h3 y hy
/-- What is left out has nothing unknown. -/
theorem pRound_drop : ∀ {xs : List Sm} {kn : Kn} {x : Sm}, x ∈ xs → x ∈ (pRound kn xs).2.1 ∨ (miss (pickHas x.id.toNat kn.length) (pRound kn xs).1 kn.length).length = 0
  | y :: xs, kn, x, h => by
    rw [pRound]
    show x ∈ (pOne kn y).2.1 ++ (pRound (pOne kn y).1 xs).2.1 ∨ (miss _ (pRound (pOne kn y).1 xs).1 _).length = 0
    rcases List.mem_cons.1 h with rfl | h
    · rcases pOne_cases kn x with ⟨a, hm, ha, _, _, e⟩ | ⟨_, e⟩ | ⟨hm, e⟩
      · right
        have h1 : ∀ k, (pOne kn x).1.isK k = true → (pRound (pOne kn x).1 xs).1.isK k = true := fun k hk => pRound_grows hk
        have h2 := miss_le (has := pickHas x.id.toNat kn.length) (m := kn.length) h1
        have h3 : (miss (pickHas x.id.toNat kn.length) (pOne kn x).1 kn.length) = [] := by
          rw [List.eq_nil_iff_forall_not_mem]
          intro k hk
          obtain ⟨k1, k2, k3⟩ := mem_miss.1 hk
          rw [e] at k3
          replace k3 : Kn.isK (kn.set a _) k = false := k3
          rw [isK_set ha, Bool.or_eq_false_iff] at k3
          have : k ∈ miss (pickHas x.id.toNat kn.length) kn kn.length := mem_miss.2 ⟨k1, k2, k3.1⟩
          rw [hm, List.mem_singleton] at this
          simp [this] at k3
        rw [h3] at h2
        simpa using h2
      · left; rw [e]; simp
      · right
        have h1 : ∀ k, kn.isK k = true → (pRound (pOne kn x).1 xs).1.isK k = true := fun k hk => pRound_grows (pOne_grows hk)
        have h2 := miss_le (has := pickHas x.id.toNat kn.length) (m := kn.length) h1
        omega
    · rcases pRound_drop (kn := (pOne kn y).1) h with h1 | h1
      · exact .inl (List.mem_append_right _ h1)
      · rw [pOne_len] at h1; exact .inr h1
theorem pRun_len : ∀ (f : Nat) (xs : List Sm) (kn : Kn), (pRun f kn xs).length = kn.length
  | 0, _, _ => rfl
  | f + 1, xs, kn => by
    rw [pRun]; split
    · rw [pRun_len f, pRound_len]
    · rw [pRound_len]
theorem pRun_grows : ∀ {f : Nat} {xs : List Sm} {kn : Kn} {k : Nat}, kn.isK k = true → (pRun f kn xs).isK k = true
  | 0, _, _, _, h => h
  | f + 1, xs, kn, k, h => by
    rw [pRun]; split
    · exact pRun_grows (pRound_grows h)
    · exact pRound_grows h
/-- In the end no symbol has one unknown. -/
theorem pRun_closed : ∀ {f : Nat} {xs : List Sm} {kn : Kn}, nones kn < f → ∀ x ∈ xs, (miss (pickHas x.id.toNat kn.length) (pRun f kn xs) kn.length).length ≠ 1
  | 0, _, _, h, _, _ => absurd h (Nat.not_lt_zero _)
  | f + 1, xs, kn, h, x, hx => by
    rw [pRun]
    have hn := pRound_nones xs kn
    cases hm : (pRound kn xs).2.2 with
    | true =>
      rw [hm] at hn
      simp at hn
      rw [if_pos rfl]
      rcases pRound_drop (kn := kn) hx with h1 | h1
      · have := pRun_closed (f := f) (xs := (pRound kn xs).2.1) (kn := (pRound kn xs).1) (by omega) x h1
        rw [pRound_len] at this
        exact this
      · have := miss_le (has := pickHas x.id.toNat kn.length) (kn := (pRound kn xs).1) (kn' := pRun f (pRound kn xs).1 (pRound kn xs).2.1) (m := kn.length) (fun k hk => pRun_grows hk)
        omega
    | false =>
      rw [if_neg (by simp)]
      obtain ⟨e, h1⟩ := pRound_still hm
      rw [e]
      exact h1 x hx
/-- Nothing is known that isn't in what is closed. -/
theorem pOne_in {T : Kn} {kn : Kn} {x : Sm} (hl : T.length = kn.length) (h : ∀ k, kn.isK k = true → T.isK k = true) (hx : (miss (pickHas x.id.toNat T.length) T T.length).length ≠ 1) : ∀ k, (pOne kn x).1.isK k = true → T.isK k = true := by
  intro k hk
  rcases pOne_cases kn x with ⟨a, hm, ha, hha, _, e⟩ | ⟨_, e⟩ | ⟨_, e⟩
  · rw [e] at hk
    replace hk : Kn.isK (kn.set a _) k = true := hk
    rw [isK_set ha, Bool.or_eq_true] at hk
    rcases hk with hk | hk
    · exact h k hk
    · obtain rfl := of_decide_eq_true hk
      rw [hl] at hx
      have h2 := miss_le (has := pickHas x.id.toNat kn.length) (m := kn.length) h
      rw [hm] at h2
      have h3 : (miss (pickHas x.id.toNat kn.length) T kn.length) = [] := List.length_eq_zero_iff.1 (by simp at h2; omega)
      cases e2 : T.isK k with
      | true => rfl
      | false =>
        have : k ∈ miss (pickHas x.id.toNat kn.length) T kn.length := mem_miss.2 ⟨ha, hha, e2⟩
        rw [h3] at this; cases this
  · rw [e] at hk; exact h k hk
  · rw [e] at hk; exact h k hk
theorem pRound_in {T : Kn} : ∀ {xs : List Sm} {kn : Kn}, T.length = kn.length → (∀ k, kn.isK k = true → T.isK k = true) → (∀ x ∈ xs, (miss (pickHas x.id.toNat T.length) T T.length).length ≠ 1) → ∀ k, (pRound kn xs).1.isK k = true → T.isK k = true
  | [], _, _, h, _ => h
  | x :: xs, kn, hl, h, hx => pRound_in (xs := xs) (by rw [pOne_len]; exact hl) (pOne_in hl h (hx x (by simp))) fun y hy => hx y (List.mem_cons_of_mem _ hy)
theorem pRun_in {T : Kn} : ∀ {f : Nat} {xs : List Sm} {kn : Kn}, T.length = kn.length → (∀ k, kn.isK k = true → T.isK k = true) → (∀ x ∈ xs, (miss (pickHas x.id.toNat T.length) T T.length).length ≠ 1) → ∀ k, (pRun f kn xs).isK k = true → T.isK k = true
  | 0, _, _, _, h, _ => h
  | f + 1, xs, kn, hl, h, hx => by
    intro k hk
    rw [pRun] at hk
    split at hk
    · exact pRun_in (f := f) (by rw [pRound_len]; exact hl) (pRound_in hl h hx) (fun y hy => hx y (pRound_left hy)) k hk
    · exact pRound_in hl h hx k hk
theorem length_peelF (b : Nat) (xs : List Sm) : (peelF b xs).length = b := by unfold peelF; rw [pRun_len]; simp
/-- With more symbols no less is known. -/
theorem peel_more {b : Nat} {xs ys : List Sm} (hle : ∀ x ∈ xs, x ∈ ys) {k : Nat} (h : (peelF b xs).isK k = true) : (peelF b ys).isK k = true := by
  refine pRun_in (T := peelF b ys) (by rw [length_peelF]; simp) (fun k hk => ?_) (fun x hx => ?_) k h
  · obtain ⟨l, hk⟩ := isK_iff.1 hk
    rw [List.getElem?_replicate] at hk
    split at hk <;> cases hk
  · rw [length_peelF]
    have := pRun_closed (f := b + 1) (xs := ys) (kn := List.replicate b none) (by unfold nones; rw [List.countP_replicate]; simp) x (hle x hx)
    unfold peelF
    simpa using this

/-- The row that says a block. -/
def uv (k : Nat) (x : List UInt8) : Vc := ⟨fun i => decide (i = k), fun i => x.getD i 0⟩
/-- Each block that is known is told by the symbols. -/
def Says (G : Vc → Prop) (kn : Kn) : Prop := ∀ (k : Nat) x, kn[k]? = some (some x) → Span G (uv k x)
theorem got_span {G : Vc → Prop} (h0 : Span G Vc.zero) {kn : Kn} (h : Says G kn) (has : List Bool) : ∀ m, ∃ v, Span G v ∧ (∀ i, v.h i = (decide (i < m) && has.getD i false && kn.isK i)) ∧ ∀ i, v.d i = (got has kn m).foldr (fun l a => l.getD i 0 ^^^ a) 0
  | 0 => ⟨Vc.zero, h0, fun i => by simp [Vc.zero], fun i => rfl⟩
  | m + 1 => by
    obtain ⟨v, h1, h2, h3⟩ := got_span h0 h has m
    have hf : ∀ (l : List (List UInt8)) (y : List UInt8) (i : Nat), (l ++ [y]).foldr (fun l a => l.getD i 0 ^^^ a) 0 = (l.foldr (fun l a => l.getD i 0 ^^^ a) 0 ^^^ y.getD i 0) := by
      intro l y i
      induction l with
      | nil => simp
      | cons z l ih => simp only [List.cons_append, List.foldr_cons, ih, UInt8.xor_assoc]
    by_cases hh : has.getD m false = true ∧ kn.isK m = true
    · obtain ⟨x, hx⟩ := isK_iff.1 hh.2
      refine ⟨v + uv m x, h1.plus (h m x hx), fun i => ?_, fun i => ?_⟩
      · rw [Vc.add_h, h2]
        show (_ ^^ decide (i = m)) = _
        rcases Nat.lt_trichotomy i m with h4 | h4 | h4
        · simp [h4, show i < m + 1 by omega, show i ≠ m by omega]
        · subst h4; simp only [hh.1, hh.2, Nat.lt_irrefl, decide_false, Bool.false_and, decide_true]; simp
        · simp [show ¬ i < m by omega, show ¬ i < m + 1 by omega, show i ≠ m by omega]
      · have e : kn.getD m none = some x := by rw [List.getD_eq_getElem?_getD, hx]; rfl
        rw [Vc.add_d, h3, got_succ, hh.1, if_pos rfl, e]
        show _ = (got has kn m ++ [x]).foldr _ 0
        rw [hf]; rfl
    · refine ⟨v, h1, fun i => ?_, fun i => ?_⟩
      · rw [h2]
        rcases Nat.lt_trichotomy i m with h4 | h4 | h4
        · simp [h4, show i < m + 1 by omega]
        · subst h4
          have : (has.getD i false && kn.isK i) = false := by
            cases e1 : has.getD i false <;> cases e2 : kn.isK i <;> simp_all
          simp only [Bool.and_assoc, this, Bool.and_false]
        · simp [show ¬ i < m by omega, show ¬ i < m + 1 by omega]
      · rw [h3, got_succ]
        have : (if has.getD m false = true then (kn.getD m none).toList else []) = [] := by
          split
          · rename_i h5
            have h6 : kn.isK m = false := by
              cases e2 : kn.isK m
              · rfl
              · exact absurd ⟨h5, e2⟩ hh
            unfold Kn.isK at h6
            cases e3 : kn.getD m none with
            | none => rfl
            | some y => rw [e3] at h6; cases h6
          · rfl
        rw [this, List.append_nil]
/-- What a symbol tells with what is known. -/
theorem told_facts {K : Nat} (hK : 1 ≤ K ∧ K ≤ 16) {kn : Kn} (hl : KnLen K kn) (has : List Bool) {d : List UInt8} (hd : d.length = K) :
    sumAdd (d :: got has kn kn.length) = (told has d kn, 0) ∧ (told has d kn).length = K ∧ ∀ i, (told has d kn).getD i 0 = (d.getD i 0 ^^^ (got has kn kn.length).foldr (fun l a => l.getD i 0 ^^^ a) 0) := by
  have hall : ∀ l ∈ d :: got has kn kn.length, l.length = K := by
    intro l hl2
    rcases List.mem_cons.1 hl2 with rfl | hl2
    · exact hd
    · obtain ⟨k, hk⟩ := got_mem hl2
      exact hl k l hk
  have hc : sumCheck (d :: got has kn kn.length) = 0 := by
    unfold sumCheck
    exact sumCheckFrom_of (n0 := K) (by omega) (by omega) hall |> (by rw [List.headD_cons, hd]; exact ·)
  have e : sumAdd (d :: got has kn kn.length) = (xorAll K (d :: got has kn kn.length), 0) := by
    rw [sumAdd, if_neg (by simp [hc]), if_neg (by simp), List.headD_cons, hd]
  have et : told has d kn = xorAll K (d :: got has kn kn.length) := by unfold told; rw [e]
  refine ⟨by rw [e, et], by rw [et]; exact length_xorAll hall (by simp [zeros]), fun i => ?_⟩
  rw [et]
  unfold xorAll
  rw [foldl_getD _ _ hall (by simp [zeros])]
  have : (zeros K).getD i 0 = 0 := by unfold zeros; simp [List.getD_eq_getElem?_getD, List.getElem?_replicate]; split <;> rfl
  rw [this, UInt8.zero_xor, List.foldr_cons]
/-- Symbols of a plan. -/
def SmFit (K : Nat) (xs : List Sm) : Prop := ∀ x ∈ xs, x.data.length = K
theorem pOne_knLen {K : Nat} (hK : 1 ≤ K ∧ K ≤ 16) {kn : Kn} (hl : KnLen K kn) {x : Sm} (hx : x.data.length = K) : KnLen K (pOne kn x).1 := by
  rcases pOne_cases kn x with ⟨a, hm, ha, hha, _, e⟩ | ⟨_, e⟩ | ⟨_, e⟩
  · rw [e]
    intro k l hk
    replace hk : (kn.set a _)[k]? = some (some l) := hk
    rw [List.getElem?_set] at hk
    split at hk
    · simp [ha] at hk
      rw [← hk]; exact (told_facts hK hl _ hx).2.1
    · exact hl k l hk
  · rw [e]; exact hl
  · rw [e]; exact hl
theorem pOne_says {K : Nat} (hK : 1 ≤ K ∧ K ≤ 16) {G : Vc → Prop} (h0 : Span G Vc.zero) {kn : Kn} (hl : KnLen K kn) (h : Says G kn) {x : Sm} (hx : x.data.length = K) (hG : G (vc (symRow kn.length x))) : Says G (pOne kn x).1 := by
  rcases pOne_cases kn x with ⟨a, hm, ha, hha, hak, e⟩ | ⟨_, e⟩ | ⟨_, e⟩
  · rw [e]
    intro k l hk
    replace hk : (kn.set a _)[k]? = some (some l) := hk
    rw [List.getElem?_set] at hk
    split at hk
    · rename_i hka
      subst hka
      simp [ha] at hk
      obtain ⟨v, hv, v1, v2⟩ := got_span h0 h (pickHas x.id.toNat kn.length) kn.length
      have : uv a l = vc (symRow kn.length x) + v := by
        refine Vc.ext' (fun i => ?_) fun i => ?_
        · rw [Vc.add_h, v1]
          show decide (i = a) = ((pickHas x.id.toNat kn.length).getD i false ^^ _)
          have hmem : (i ∈ miss (pickHas x.id.toNat kn.length) kn kn.length) ↔ i = a := by rw [hm, List.mem_singleton]
          rw [mem_miss] at hmem
          by_cases hi : i = a
          · subst hi; rw [hha, hak]; simp
          · have hlt : (pickHas x.id.toNat kn.length).getD i false = true → i < kn.length := by
              intro hp
              rw [List.getD_eq_getElem?_getD] at hp
              rcases Nat.lt_or_ge i kn.length with h1 | h1
              · exact h1
              · rw [List.getElem?_eq_none (by rw [length_pickHas]; exact h1)] at hp; cases hp
            cases e1 : (pickHas x.id.toNat kn.length).getD i false with
            | false => simp [hi]
            | true =>
              have h1 := hlt e1
              cases e2 : kn.isK i with
              | true => simp [h1, hi]
              | false => exact absurd (hmem.1 ⟨h1, e1, e2⟩) hi
        · rw [Vc.add_d, v2]
          show l.getD i 0 = _
          rw [← hk]; exact (told_facts hK hl _ hx).2.2 i
      rw [this]
      exact (Span.of hG).plus hv
    · exact h k l hk
  · rw [e]; exact h
  · rw [e]; exact h
structure Good (b K : Nat) (G : Vc → Prop) (kn : Kn) : Prop where
  len : kn.length = b
  all : KnLen K kn
  says : Says G kn
theorem pRound_good {b K : Nat} (hK : 1 ≤ K ∧ K ≤ 16) {G : Vc → Prop} (h0 : Span G Vc.zero) : ∀ {xs : List Sm} {kn : Kn}, Good b K G kn → (∀ x ∈ xs, x.data.length = K ∧ G (vc (symRow b x))) → Good b K G (pRound kn xs).1
  | [], _, h, _ => h
  | x :: xs, kn, h, hx => by
    obtain ⟨h1, h2⟩ := hx x (by simp)
    refine pRound_good hK h0 (xs := xs) ⟨(pOne_len kn x).trans h.len, pOne_knLen hK h.all h1, pOne_says hK h0 h.all h.says h1 (by rw [h.len]; exact h2)⟩ fun y hy => hx y (List.mem_cons_of_mem _ hy)
theorem pRun_good {b K : Nat} (hK : 1 ≤ K ∧ K ≤ 16) {G : Vc → Prop} (h0 : Span G Vc.zero) : ∀ {f : Nat} {xs : List Sm} {kn : Kn}, Good b K G kn → (∀ x ∈ xs, x.data.length = K ∧ G (vc (symRow b x))) → Good b K G (pRun f kn xs)
  | 0, _, _, h, _ => h
  | f + 1, xs, kn, h, hx => by
    rw [pRun]; split
    · exact pRun_good hK h0 (pRound_good hK h0 h hx) fun y hy => hx y (pRound_left hy)
    · exact pRound_good hK h0 h hx
theorem good_none (b K : Nat) (G : Vc → Prop) : Good b K G (List.replicate b none) := by
  have : ∀ (k : Nat) (x : List UInt8), ¬ (List.replicate b (none : Option (List UInt8)))[k]? = some (some x) := fun k x h => by
    rw [List.getElem?_replicate] at h
    split at h <;> cases h
  exact ⟨by simp, fun k l h => absurd h (this k l), fun k x h => absurd h (this k x)⟩
theorem knLen_of {b K : Nat} (hK : 1 ≤ K ∧ K ≤ 16) {xs : List Sm} (hx : SmFit K xs) : KnLen K (peelF b xs) :=
  (pRun_good (G := fun _ => True) hK (.of trivial) (good_none b K _) fun x h => ⟨hx x h, trivial⟩).all
theorem peel_good {B K : Nat} {c : List UInt8} {xs : List Sm} (h : SymsOk B K c xs) (hne : xs ≠ []) : Good (cutF K B c).length K (GS (cutF K B c).length xs) (peelF (cutF K B c).length xs) := by
  obtain ⟨q1, q2, q3, hall, hK⟩ := cutF_facts h.cut h.len
  obtain ⟨x, hx⟩ := List.exists_mem_of_ne_nil _ hne
  have h1 : Span (GS (cutF K B c).length xs) (vc (symRow (cutF K B c).length x)) := .of ⟨x, hx, rfl⟩
  have h0 : Span (GS (cutF K B c).length xs) Vc.zero := by rw [← Vc.self (vc (symRow (cutF K B c).length x))]; exact h1.plus h1
  exact pRun_good hK h0 (good_none _ _ _) fun y hy => ⟨(h.hold y hy).1.2, y, hy, rfl⟩
theorem peel_empty (b : Nat) : peelF b [] = List.replicate b none := by
  unfold peelF pRun
  rw [pRound]; rfl
/-- What is known is true. -/
theorem peel_true {B K : Nat} {c : List UInt8} {xs : List Sm} (h : SymsOk B K c xs) {k : Nat} {x : List UInt8} (hk : (peelF (cutF K B c).length xs)[k]? = some (some x)) : (cutF K B c)[k]? = some x := by
  by_cases hne : xs = []
  · rw [hne, peel_empty, List.getElem?_replicate] at hk
    split at hk <;> cases hk
  · obtain ⟨q1, q2, q3, hall, hK⟩ := cutF_facts h.cut h.len
    have hg := peel_good h hne
    have hlt : k < (cutF K B c).length := by
      have := (List.getElem?_eq_some_iff.1 hk).1
      rw [hg.len] at this; exact this
    have hh : Hold (cutF K B c) (uv k x) := Hold.span (fun g ⟨y, hy, e⟩ => by rw [e]; exact (h.hold y hy).2.1) (hg.says k x hk)
    have hx : x = (cutF K B c)[k] := by
      refine list_ext_getD (d := 0) (by rw [hg.all k x hk, hall _ (List.getElem_mem hlt)]) fun i => ?_
      have := hh i
      rw [evf_unit i (cutF K B c) (uv k x).h k (by simp [uv]) (fun j hj => by simp [uv, hj]), show (cutF K B c).getD k [] = (cutF K B c)[k] from by rw [List.getD_eq_getElem?_getD, List.getElem?_eq_getElem hlt]; rfl] at this
      exact this
    rw [List.getElem?_eq_getElem hlt, hx]
/-- Where all is known so, the cargo is. -/
theorem peel_whole {B K : Nat} {c : List UInt8} {xs : List Sm} (h : SymsOk B K c xs) (hw : ∀ k, k < (cutF K B c).length → (peelF (cutF K B c).length xs).isK k = true) : decodeF B K xs = (c, 0) := by
  obtain ⟨q1, q2, q3, hall, hK⟩ := cutF_facts h.cut h.len
  have hne : xs ≠ [] := by
    rintro rfl
    have := hw 0 (by omega)
    rw [peel_empty] at this
    obtain ⟨l, this⟩ := isK_iff.1 this
    rw [List.getElem?_replicate] at this
    split at this <;> cases this
  have hg := peel_good h hne
  obtain ⟨rows, hm, e⟩ := h.rows
  have hlen : (cutF K B c).length ≤ rows.length := by
    have hn : (List.range (cutF K B c).length).Nodup := List.nodup_range
    have := nodup_le hn (m := (pl rows).map (·.1)) fun k hk => by
      have hk := List.mem_range.1 hk
      obtain ⟨x, hx⟩ := isK_iff.1 (hw k hk)
      have hs : Sp (pl rows) (uv k x) := (hm.span _).2 (hg.says k x hx)
      have hl : Lead (uv k x) k := ⟨by simp [uv], fun j hj => by simp [uv]; omega⟩
      obtain ⟨a, ha, ea⟩ := span_lead hm.sys.ech hs hl
      exact List.mem_map.2 ⟨a, ha, ea⟩
    simpa [pl] using this
  rw [e, if_neg (by omega)]
end Go.Proofs.Ytnfjghldcopaaaa
namespace Go.Proofs.Ytnfjghldcopaaaa
open Go.RowKit

/-- What is known of a block, as its cell. -/
def KnV (K : Nat) (w : World) (S : Nat → Prop) (v : Value) (x : Option (List UInt8)) : Prop :=
  (x = none ∧ v = .slice none 0 0) ∨ ∃ l ad c, x = some l ∧ v = .slice (some ad) K c ∧ (K ≤ c ∧ c ≤ maxLen) ∧ Sl 1 eByte w S (some ad) K l
theorem KnV.chg {K : Nat} {w w' : World} {S T : Nat → Prop} {v : Value} {x : Option (List UInt8)} (h : KnV K w S v x) (k : Chg T w w') (hd : ∀ b, S b → b < w.heap.size ∧ ¬ T b) : KnV K w' S v x := by
  rcases h with h | ⟨l, ad, c, h1, h2, h3, h4⟩
  · exact .inl h
  · exact .inr ⟨l, ad, c, h1, h2, h3, h4.chg sByte k hd⟩
theorem KnV.more {K : Nat} {w : World} {S T : Nat → Prop} {v : Value} {x : Option (List UInt8)} (h : KnV K w S v x) (hd : ∀ b, S b → T b) : KnV K w T v x := by
  rcases h with h | ⟨l, ad, c, h1, h2, h3, h4⟩
  · exact .inl h
  · exact .inr ⟨l, ad, c, h1, h2, h3, h4.more sByte hd⟩
/-- What is known, as a row of cells. -/
def KnM (K : Nat) (w : World) (S : Nat → Prop) (g : Nat) (kn : Kn) : Prop :=
  ∃ vs : List Value, w.heap[g]? = some (.cells vs.toArray 27 (0, 0)) ∧ vs.length = kn.length ∧ ∀ (i : Nat) (x : Option (List UInt8)), kn[i]? = some x → ∃ v, vs[i]? = some v ∧ KnV K w S v x
theorem KnM.lt {K : Nat} {w : World} {S : Nat → Prop} {g : Nat} {kn : Kn} (h : KnM K w S g kn) : g < w.heap.size := by
  obtain ⟨vs, h, _⟩ := h
  exact (Array.getElem?_eq_some_iff.1 h).1
theorem KnM.chg {K : Nat} {w w' : World} {S T : Nat → Prop} {g : Nat} {kn : Kn} (h : KnM K w S g kn) (k : Chg T w w') (hg : ¬ T g) (hd : ∀ b, S b → b < w.heap.size ∧ ¬ T b) : KnM K w' S g kn := by
  obtain ⟨vs, h1, h2, h3⟩ := h
  exact ⟨vs, k.blk h1 hg, h2, fun i x hx => by obtain ⟨v, hv, hk⟩ := h3 i x hx; exact ⟨v, hv, hk.chg k hd⟩⟩
theorem KnM.fr {K : Nat} {w w' : World} {S : Nat → Prop} {g : Nat} {kn : Kn} (h : KnM K w S g kn) (k : Fr w w') (hd : ∀ b, S b → b < w.heap.size) : KnM K w' S g kn :=
  h.chg (T := fun _ => False) k.chg (fun e => e) fun b hb => ⟨hd b hb, fun e => e⟩
theorem KnM.more {K : Nat} {w : World} {S T : Nat → Prop} {g : Nat} {kn : Kn} (h : KnM K w S g kn) (hd : ∀ b, S b → T b) : KnM K w T g kn := by
  obtain ⟨vs, h1, h2, h3⟩ := h
  exact ⟨vs, h1, h2, fun i x hx => by obtain ⟨v, hv, hk⟩ := h3 i x hx; exact ⟨v, hv, hk.more hd⟩⟩
theorem KnM.free {K : Nat} {w : World} {S : Nat → Prop} {g i : Nat} {kn : Kn} (h : KnM K w S g kn) : w.frozen? ⟨g, i, none⟩ = false := by
  obtain ⟨vs, h, _⟩ := h
  exact blk_free h
theorem KnM.get {K : Nat} {w : World} {S : Nat → Prop} {g i : Nat} {kn : Kn} (h : KnM K w S g kn) (hi : i < kn.length) : ∃ x v, kn[i]? = some x ∧ w.cell? ⟨g, i, none⟩ = some v ∧ KnV K w S v x := by
  obtain ⟨vs, h1, h2, h3⟩ := h
  obtain ⟨v, hv, hk⟩ := h3 i _ (List.getElem?_eq_getElem hi)
  exact ⟨_, v, List.getElem?_eq_getElem hi, by rw [cell_of_heap h1, List.getElem?_toArray]; exact hv, hk⟩
theorem KnM.set {K : Nat} {w : World} {S : Nat → Prop} {g i c : Nat} {ad : Addr} {l : List UInt8} {kn : Kn} (h : KnM K w S g kn) (hS : ¬ S g) (hi : i < kn.length) (hc : K ≤ c ∧ c ≤ maxLen) (hl : Sl 1 eByte w S (some ad) K l) :
    KnM K (w.setCell ⟨g, i, none⟩ (.slice (some ad) K c)) S g (kn.set i (some l)) := by
  obtain ⟨vs, h1, h2, h3⟩ := h
  have hk : ∀ p : Addr, S p.block → (w.setCell ⟨g, i, none⟩ (.slice (some ad) K c)).cell? p = w.cell? p := fun p hp => World.cell?_setCell_other w _ p _ fun e => by subst e; exact hS hp
  refine ⟨vs.set i (.slice (some ad) K c), ?_, by simp [h2], fun j x hx => ?_⟩
  · simp [World.setCell, Array.getElem?_modify, h1]
  · rw [List.getElem?_set] at hx
    split at hx
    · rename_i e
      subst e
      injection hx with hx
      exact ⟨_, List.getElem?_set_self (by omega), .inr ⟨l, ad, c, hx.symm, rfl, hc, hl.keep sByte hk⟩⟩
    · rename_i e
      obtain ⟨v, hv, hkv⟩ := h3 j x hx
      refine ⟨v, by rw [List.getElem?_set_ne e]; exact hv, ?_⟩
      rcases hkv with h | ⟨l', ad', c', q1, q2, q3, q4⟩
      · exact .inl h
      · exact .inr ⟨l', ad', c', q1, q2, q3, q4.keep sByte hk⟩

/-- 's == nil'. -/
theorem wpList_nil {P : Program} {w : World} {ops : Array Oper} {rest : List Oper} {o : Oper} {a : Act} {Q : Exit → Act → World → Prop} (hw : Region.wanted o (yielded ops a.tmps) = true) (s : Operand) (t t' e : TypeId) (ho : o.op = .binOp .eql t s (.const (.slice none 0 0)) t') (ht : P.underlying t = some (.slice e)) {A : Option Addr} {n c : Nat} (hs : a.eval s = .slice A n c) (x : Bool) (hx : A.isNone = x)
    (h : wpList P ops Q rest (a.put o.dst (.bool x)) w) : wpList P ops Q (o :: rest) a w := by
  refine wpList_step fun K hK => ?_
  rw [if_pos hw]
  have h1 : a.eval (.const (.slice none 0 0)) = .slice none 0 0 := rfl
  have h2 : (eqGuard .eql t s (.const (.slice none 0 0)) (.slice A n c) (.slice none 0 0)) = pure () := rfl
  have h3 : (binOp .eql t (.slice A n c) (.slice none 0 0)).run P w = .ok (.bool A.isNone) w := run_eql_slice_nil w t e A n c ht
  unfold Oper.wp execOp
  simp only [ho]
  rw [hs, h1, h2]
  simp only [Sem.run_bind, Sem.run_pure, Result.andThen_ok, h3]
  subst hx
  exact hK _ _ h

/-- 's != nil'. -/
theorem wpList_nnil {P : Program} {w : World} {ops : Array Oper} {rest : List Oper} {o : Oper} {a : Act} {Q : Exit → Act → World → Prop} (hw : Region.wanted o (yielded ops a.tmps) = true) (s : Operand) (t t' e : TypeId) (ho : o.op = .binOp .neq t s (.const (.slice none 0 0)) t') (ht : P.underlying t = some (.slice e)) {A : Option Addr} {n c : Nat} (hs : a.eval s = .slice A n c) (x : Bool) (hx : (!A.isNone) = x)
    (h : wpList P ops Q rest (a.put o.dst (.bool x)) w) : wpList P ops Q (o :: rest) a w := by
  refine wpList_step fun K hK => ?_
  rw [if_pos hw]
  have h1 : a.eval (.const (.slice none 0 0)) = .slice none 0 0 := rfl
  have h2 : (eqGuard .neq t s (.const (.slice none 0 0)) (.slice A n c) (.slice none 0 0)) = pure () := rfl
  have h3 : (binOp .neq t (.slice A n c) (.slice none 0 0)).run P w = .ok (.bool (!A.isNone)) w := run_neq_slice_nil w t e A n c ht
  unfold Oper.wp execOp
  simp only [ho]
  rw [hs, h1, h2]
  simp only [Sem.run_bind, Sem.run_pure, Result.andThen_ok, h3]
  subst hx
  exact hK _ _ h

section
variable {α : Type} {size : Nat} {r : ERd α}
theorem eLow_iff {N : Nat} {w : World} {S : Nat → Prop} {f : Nat → Option Value} {x : α} : eLow N r w S f x ↔ r w (fun b => S b ∧ b < N) f x := Iff.rfl
/-- A store between turns nothing of an own slice whose elements lie below. -/
theorem Own.lowChg {N base : Nat} {w w' : World} {e : TypeId} {v : Value} {xs : List α} {T : Nat → Prop} (s : Stable size r) (h : Own size (eLow N r) w base e v xs) (k : Chg T w w') (hT : ∀ b, T b → N ≤ b ∧ b < base) : Own size (eLow N r) w' base e v xs := by
  obtain ⟨cs, ho, hr⟩ := h
  refine ⟨cs, ⟨ho.1, ?_⟩, fun i x hx => ?_⟩
  · rcases ho.2 with h0 | ⟨g, cap, cur, h1, h2, h3, h4⟩
    · exact .inl h0
    · exact .inr ⟨g, cap, cur, h1, h2, k.blk h3 (fun e => by have := hT g e; omega), h4⟩
  · exact s.more (fun b hb => ⟨⟨Nat.lt_of_lt_of_le hb.1.1 k.size, hb.1.2⟩, hb.2⟩) (s.keep (fun p hp => k.cell hp.1.1 fun e => by have := hT _ e; have := hp.2; omega) (hr i x hx))
/-- It reads as a list, off what lies below and what is its own. -/
theorem Own.lowOut {N base : Nat} {w : World} {e : TypeId} {v : Value} {xs : List α} (s : Stable size r) (h : Own size (eLow N r) w base e v xs) : ∃ A c, v = .slice A xs.length c ∧ (xs.length ≤ c ∧ c ≤ maxLen) ∧ Sl size (eLow N r) w (fun b => b < w.heap.size ∧ (b < N ∨ base ≤ b)) A xs.length xs := by
  obtain ⟨cs, ho, hr⟩ := h
  rcases ho.2 with ⟨rfl, h0⟩ | ⟨g, cap, cur, rfl, hbg, hg, hnc, hcm, hcs, htake⟩
  · exact ⟨none, 0, by rw [h0], ⟨by omega, by unfold maxLen; omega⟩, rfl, fun hn => by omega⟩
  · refine ⟨some ⟨g, 0, none⟩, cap, rfl, ⟨hnc, hcm⟩, rfl, fun hn => ⟨_, rfl, ⟨(Array.getElem?_eq_some_iff.1 hg).1, .inr hbg⟩, fun i x hx => ?_⟩⟩
    refine s.mono (fun j u hj hu => ?_) (s.more (fun b hb => ⟨⟨hb.1.1, .inl hb.2⟩, hb.2⟩) (hr i x hx))
    rw [zero_add_addr, cell_of_heap hg]
    rw [← htake, List.getElem?_take] at hu
    split at hu
    · simpa using hu
    · cases hu
theorem Own.lt {base : Nat} {w : World} {e : TypeId} {v : Value} {xs : List α} (h : Own size r w base e v xs) {b : Nat} (hb : v.ownBlock = some b) : base ≤ b ∧ b < w.heap.size := by
  obtain ⟨cs, ho, _⟩ := h
  exact ho.lt b hb
theorem Own.isSl {base : Nat} {w : World} {e : TypeId} {v : Value} {xs : List α} (h : Own size r w base e v xs) : ∃ A n c, v = .slice A n c := by
  obtain ⟨cs, ho, _⟩ := h
  rcases ho.2 with ⟨h0, _⟩ | ⟨g, cap, cur, h0, _⟩
  · exact ⟨_, _, _, h0⟩
  · exact ⟨_, _, _, h0⟩
/-- One element laid alone. -/
theorem own_one {base : Nat} {w : World} {e : TypeId} {b : Nat} {vs : List Value} {y : α} (s : Stable size r) (hb : base ≤ b) (h : w.heap[b]? = some (.cells vs.toArray e (0, 0))) (hl : vs.length = size) (hy : r w (fun x => x < w.heap.size ∧ x ≠ b) (fun j => vs[j]?) y) :
    Own size r w base e (.slice (some ⟨b, 0, none⟩) 1 1) [y] := by
  refine ⟨vs, ⟨by simp [hl], .inr ⟨b, 1, vs.toArray, by simp, hb, h, by simp, by unfold maxLen; omega, by simp [hl], by simp [← hl]⟩⟩, fun i x hx => ?_⟩
  obtain rfl : i = 0 := by have := (List.getElem?_eq_some_iff.1 hx).1; simp at this; omega
  obtain rfl : y = x := by simpa using hx
  simp only [Nat.zero_mul, Nat.zero_add]
  exact s.more (fun x hx => ⟨hx.1, fun e => hx.2 (by simp [Value.ownBlock] at e; exact e.symm)⟩) hy

theorem app_o {P : Program} {W0 W1 : World} {base e b t ty : TypeId} {news : List Value} {te : TypeId} {v : Value} {xs : List α} {y : α} {fr : Nat × Nat} {i : TypeInfo} {z : Value} {bytes : Nat} (st : Stable size r) (ht : P.underlying t = some (.slice e)) (hi1 : P.info? e = some i) (hi2 : i.zero = some z) (hi3 : i.size = size) (hi4 : i.bytes = bytes)
    (hzs : z.cells.size = size) (hsz : 0 < size) (hown : Own size r W0 base e v xs) (hf : Fr W0 W1) (hblk : W1.heap[b]? = some (.cells news.toArray te fr)) (hl : news.length = size) (h1 : ∀ u ∈ news, u.oneCell' = true)
    (hy : r W0 (fun b => b < W0.heap.size ∧ v.ownBlock ≠ some b) (fun j => news[j]?) y) (h63 : xs.length + 1 ≤ maxLen) (hbytes : (xs.length + 1) * bytes ≤ lim) (hbase : base ≤ W0.heap.size) :
    ∃ v' w', (Builtin.append_ #[t, t] ty #[v, .slice (some ⟨b, 0, none⟩) 1 1]).run P W1 = .ok v' w' ∧ Own size r w' base e v' (xs ++ [y]) ∧ Chg (fun k => v.ownBlock = some k) W0 w' ∧ ∀ k, v'.ownBlock = some k → v.ownBlock = some k ∨ W0.heap.size ≤ k := by
  obtain ⟨q1, q2, q3⟩ := app1_pre (P := P) st hown hf hblk hl hy
  obtain ⟨cs, hrow, hr⟩ := q1
  obtain ⟨v', w', hrun, g2, g3, g4, g5⟩ := run_append_own_at (P := P) W1 base t ty e i z size bytes ht hi1 hi2 hi3 hi4 hzs hsz v xs.length cs hrow ⟨b, 0, none⟩ 1 1 news (by rw [Nat.one_mul]; exact hl) q2 h1 h63 hbytes (Nat.le_trans hbase hf.size)
  have hg : Chg (fun k => v.ownBlock = some k) W1 w' := ⟨g3.os, g3.tape, g3.output, g3.size, fun k hk hs => g3.block k hk fun e => hs e.symm⟩
  refine ⟨v', w', hrun, own_apps st hr hrow.1 rfl q3 g2 g3 g5, hf.chg.trans hg, fun k hk => ?_⟩
  rcases g5 with g5 | g5
  · exact .inl (g5.symm.trans hk)
  · rw [g5] at hk
    injection hk with hk
    exact .inr (by rw [← hk]; exact hf.size)
/-- 'append(v, y)' as wpList_app1 has it; and where what is new lies. -/
theorem wpList_app1o {P : Program} {W1 : World} {ops : Array Oper} {rest : List Oper} {o : Oper} {a : Act} {Q : Exit → Act → World → Prop} (hgd : o.guard = none) (s x : Operand) (t : TypeId)
    (ho : o.op = .call { callee := .builtin .append, args := #[s, x], argTypes := #[t, t] })
    (base : Nat) (e : TypeId) (z : Value) (bytes : Nat) (ht : P.underlying t = some (.slice e)) (hi : (P.info? e).map (fun i => (i.zero, i.size, i.bytes)) = some (some z, size, bytes))
    (hzs : z.cells.size = size) (hsz : 0 < size) (st : Stable size r)
    (W0 : World) (hf : Fr W0 W1) (v : Value) (xs : List α) (hs : a.eval s = v) (hown : Own size r W0 base e v xs)
    (b : Nat) (news : List Value) (te : TypeId) (fr : Nat × Nat) (hx : a.eval x = .slice (some ⟨b, 0, none⟩) 1 1) (hblk : W1.heap[b]? = some (.cells news.toArray te fr)) (hl : news.length = size) (h1 : ∀ u ∈ news, u.oneCell' = true)
    (y : α) (hy : r W0 (fun b => b < W0.heap.size ∧ v.ownBlock ≠ some b) (fun j => news[j]?) y)
    (h63 : xs.length + 1 ≤ maxLen) (hbytes : (xs.length + 1) * bytes ≤ lim) (hbase : base ≤ W0.heap.size)
    (h : ∀ v' w', Hid (Own size r w' base e v' (xs ++ [y])) → Hid (Chg (fun k => v.ownBlock = some k) W0 w') → Hid (∀ k, v'.ownBlock = some k → v.ownBlock = some k ∨ W0.heap.size ≤ k) → wpList P ops Q rest (a.put o.dst v') w') : wpList P ops Q (o :: rest) a W1 := by
  obtain ⟨i, hi1, hi2⟩ := Option.map_eq_some_iff.1 hi
  simp only [Prod.mk.injEq] at hi2
  refine wpList_plain hgd fun K hK => ?_
  obtain ⟨v', w', hrun, k1, k2, k3⟩ := app_o (P := P) (ty := o.type) st ht hi1 hi2.1 hi2.2.1 hi2.2.2 hzs hsz hown hf hblk hl h1 hy h63 hbytes hbase
  unfold Oper.wp execOp
  simp only [ho, resolve, invoke, builtin, Sem.run_bind, Sem.run_pure, Result.andThen_ok, List.map_toArray, List.map_cons, List.map_nil, hs, hx, hrun]
  exact hK _ _ (h v' w' k1 k2 k3)
/-- The same as a step of a region that draws its order. -/
theorem step_app1o {P : Program} {W1 : World} {ops : Array Oper} {o : Oper} {a : Act} {K : Act → World → Prop} {Q : Exit → Act → World → Prop} {E : Prop} (hgd : o.guard = none) (s x : Operand) (t : TypeId)
    (ho : o.op = .call { callee := .builtin .append, args := #[s, x], argTypes := #[t, t] })
    (base : Nat) (e : TypeId) (z : Value) (bytes : Nat) (ht : P.underlying t = some (.slice e)) (hi : (P.info? e).map (fun i => (i.zero, i.size, i.bytes)) = some (some z, size, bytes))
    (hzs : z.cells.size = size) (hsz : 0 < size) (st : Stable size r)
    (W0 : World) (hf : Fr W0 W1) (v : Value) (xs : List α) (hs : a.eval s = v) (hown : Own size r W0 base e v xs)
    (b : Nat) (news : List Value) (te : TypeId) (fr : Nat × Nat) (hx : a.eval x = .slice (some ⟨b, 0, none⟩) 1 1) (hblk : W1.heap[b]? = some (.cells news.toArray te fr)) (hl : news.length = size) (h1 : ∀ u ∈ news, u.oneCell' = true)
    (y : α) (hy : r W0 (fun b => b < W0.heap.size ∧ v.ownBlock ≠ some b) (fun j => news[j]?) y)
    (h63 : xs.length + 1 ≤ maxLen) (hbytes : (xs.length + 1) * bytes ≤ lim) (hbase : base ≤ W0.heap.size)
    (h : ∀ v' w', Hid (Own size r w' base e v' (xs ++ [y])) → Hid (Chg (fun k => v.ownBlock = some k) W0 w') → Hid (∀ k, v'.ownBlock = some k → v.ownBlock = some k ∨ W0.heap.size ≤ k) → K (a.put o.dst v') w') :
    if Region.wanted o (yielded ops a.tmps) = true then Oper.wp P o a W1 K Q else E := by
  have hw : Region.wanted o (yielded ops a.tmps) = true := by simp [Region.wanted, hgd]
  rw [if_pos hw]
  obtain ⟨i, hi1, hi2⟩ := Option.map_eq_some_iff.1 hi
  simp only [Prod.mk.injEq] at hi2
  obtain ⟨v', w', hrun, k1, k2, k3⟩ := app_o (P := P) (ty := o.type) st ht hi1 hi2.1 hi2.2.1 hi2.2.2 hzs hsz hown hf hblk hl h1 hy h63 hbytes hbase
  unfold Oper.wp execOp
  simp only [ho, resolve, invoke, builtin, Sem.run_bind, Sem.run_pure, Result.andThen_ok, List.map_toArray, List.map_cons, List.map_nil, hs, hx, hrun]
  exact h v' w' k1 k2 k3
end
end Go.Proofs.Ytnfjghldcopaaaa
namespace Go.Proofs.Ytnfjghldcopaaaa
open Go.RowKit
theorem pick_eq (w : World) (id : Int) (b : Nat) (h1 : 0 ≤ id) (h2 : id ≤ 9999) (h3 : 1 ≤ b) (h4 : b ≤ 24) :
    Calls Try.prog 29 #[.int .i64 id, .int .i64 (b : Int)] w fun e w' => ∃ A c, e = .returned (.tuple #[.slice A b c, .int .i64 0]) ∧ Sl 1 eBool w' (LT w'.heap.size) A b (pickHas id.toNat b) ∧ Fr w w' := by
  have E : pickOf id (b : Nat) = (pickHas id.toNat b, 0) := by
    unfold pickOf
    rw [if_pos (by omega), Int.toNat_natCast]
  refine (pickOf_any w id b).mono ?_
  rw [E]
  rintro e w' ⟨A, n, c, he, _, hn, hs, hf⟩
  obtain rfl : n = b := by have := hn rfl; omega
  exact ⟨A, c, he, hs, hf⟩
end Go.Proofs.Ytnfjghldcopaaaa
namespace Go.Proofs.Ytnfjghldcopaaaa
open Go.RowKit
attribute [local irreducible] wpList

theorem pRound_at {kn : Kn} {xs : List Sm} {i : Nat} {x : Sm} (h : xs[i]? = some x) : pRound kn (xs.drop i) = ((pRound (pOne kn x).1 (xs.drop (i + 1))).1, (pOne kn x).2.1 ++ (pRound (pOne kn x).1 (xs.drop (i + 1))).2.1, (pOne kn x).2.2 || (pRound (pOne kn x).1 (xs.drop (i + 1))).2.2) := by
  rw [drop_cons h]; rfl

theorem pRound_step {kn kn' k1 : Kn} {xs lf l1 : List Sm} {m m1 : Bool} {i : Nat} {x : Sm} (h : pRound kn xs = ((pRound kn' (xs.drop i)).1, lf ++ (pRound kn' (xs.drop i)).2.1, m || (pRound kn' (xs.drop i)).2.2)) (hx : xs[i]? = some x) (hp : pOne kn' x = (k1, l1, m1)) :
    pRound kn xs = ((pRound k1 (xs.drop (i + 1))).1, (lf ++ l1) ++ (pRound k1 (xs.drop (i + 1))).2.1, (m || m1) || (pRound k1 (xs.drop (i + 1))).2.2) := by
  rw [h, pRound_at hx, hp]
  simp only [List.append_assoc, Bool.or_assoc]
theorem Chg.transN {S T : Nat → Prop} {a b c : World} (h : Chg S a b) (k : Chg T b c) (hs : ∀ x, T x → S x ∨ a.heap.size ≤ x) : Chg S a c :=
  ⟨k.os.trans h.os, k.tape.trans h.tape, k.output.trans h.output, Nat.le_trans h.size k.size, fun x hx hn => (k.block x (Nat.lt_of_lt_of_le hx h.size) fun e => by rcases hs x e with e | e; exact hn e; omega).trans (h.block x hx hn)⟩
theorem set1_far {w : World} {g i q o : Nat} {a : Value} (h : g ≠ q) : (w.setCell ⟨g, i, none⟩ a).cell? ⟨q, o, none⟩ = w.cell? ⟨q, o, none⟩ :=
  World.cell?_setCell_other _ _ _ _ (fun e => by injection e with e; exact h e)
theorem miss_in {H : List Bool} {kn : Kn} {k : Nat} (h1 : H[k]? = some true) (h2 : kn[k]? = some none) : miss H kn (k + 1) = miss H kn k ++ [k] ∧ got H kn (k + 1) = got H kn k := by
  have e1 : H.getD k false = true := by rw [List.getD_eq_getElem?_getD, h1]; rfl
  have e2 : kn.getD k none = none := by rw [List.getD_eq_getElem?_getD, h2]; rfl
  have e3 : kn.isK k = false := by unfold Kn.isK; rw [e2]; rfl
  rw [miss_succ, got_succ, e1, e2, e3]
  simp
theorem got_in {H : List Bool} {kn : Kn} {k : Nat} {l : List UInt8} (h1 : H[k]? = some true) (h2 : kn[k]? = some (some l)) : miss H kn (k + 1) = miss H kn k ∧ got H kn (k + 1) = got H kn k ++ [l] := by
  have e1 : H.getD k false = true := by rw [List.getD_eq_getElem?_getD, h1]; rfl
  have e2 : kn.getD k none = some l := by rw [List.getD_eq_getElem?_getD, h2]; rfl
  have e3 : kn.isK k = true := by unfold Kn.isK; rw [e2]; rfl
  rw [miss_succ, got_succ, e1, e2, e3]
  simp
theorem not_in {H : List Bool} {kn : Kn} {k : Nat} (h1 : H[k]? = some false) : miss H kn (k + 1) = miss H kn k ∧ got H kn (k + 1) = got H kn k := by
  have e1 : H.getD k false = false := by rw [List.getD_eq_getElem?_getD, h1]; rfl
  rw [miss_succ, got_succ, e1]
  simp

set_option maxRecDepth 100000 in
set_option maxHeartbeats 4000000 in
theorem round_any (w : World) (b K N d g : Nat) (S0 : Nat → Prop) (A : Option Addr) (n c : Nat) (kn : Kn) (xs : List Sm) (hb : 1 ≤ b ∧ b ≤ 24) (hK : 1 ≤ K ∧ K ≤ 16) (hkl : kn.length = b) (hkk : KnLen K kn)
    (hd : w.heap[d]? = some (.cells #[.slice (some ⟨g, 0, none⟩) b b, .slice A n c] 110 (0, 0))) (hk : KnM K w S0 g kn) (hS : ∀ x, S0 x → x < w.heap.size ∧ x ≠ d ∧ x ≠ g) (hdg : d ≠ g) (hNd : N ≤ d) (hNg : N ≤ g)
    (hx : Sl 2 (eLow N eSm) w (fun x => x < w.heap.size ∧ x ≠ d ∧ x ≠ g) A n xs) (hn : n ≤ 60) (hfx : ∀ x ∈ xs, 0 ≤ x.id ∧ x.id ≤ 9999 ∧ x.data.length = K) :
    Calls Try.prog 81 #[.pointer (some ⟨d, 0, none⟩)] w fun e w' => ∃ A' n' c', e = .returned (.bool (pRound kn xs).2.2) ∧ w'.heap[d]? = some (.cells #[.slice (some ⟨g, 0, none⟩) b b, .slice A' n' c'] 110 (0, 0)) ∧ n' ≤ 60 ∧
      KnM K w' (fun x => x < w'.heap.size ∧ x ≠ d ∧ x ≠ g) g (pRound kn xs).1 ∧ Sl 2 (eLow N eSm) w' (fun x => x < w'.heap.size ∧ x ≠ d ∧ x ≠ g) A' n' (pRound kn xs).2.1 ∧ Chg (fun x => x = d ∨ x = g) w w' := by
  obtain ⟨b1, b2⟩ := hb
  have hdl : d < w.heap.size := (Array.getElem?_eq_some_iff.1 hd).1
  have hgl : g < w.heap.size := hk.lt
  have hxl := hx.1
  (obtain ⟨x0, x1⟩ := box2_ hd)
  (have Hd := Lib.hid hd; clear hd; have Hk := Lib.hid hk; clear hk; have HS := Lib.hid hS; clear hS; have Hx := Lib.hid hx; clear hx; have Hfx := Lib.hid hfx; clear hfx; have Hkk := Lib.hid hkk; clear hkk; have Hxl := Lib.hid hxl; clear hxl)
  go_enter Try.func81, Try.ntmps81
  go_wp2_with fail
  go_loopw [3, 4, 19] (fun s3 s4 s19 wr => ∃ (i : Nat) (kn' : Kn) (lf : List Sm) (m : Bool) (S : Nat → Prop), i ≤ n ∧ s3 = .bool m ∧ s19 = .int .i64 i ∧ Hid (Own 2 (eLow N eSm) wr w.heap.size 53 s4 lf) ∧ lf.length ≤ i ∧ Hid (KnM K wr S g kn') ∧ kn'.length = b ∧ Hid (KnLen K kn') ∧ Hid (∀ x, S x → x < wr.heap.size ∧ x ≠ d ∧ x ≠ g ∧ s4.ownBlock ≠ some x) ∧ Hid (pRound kn xs = ((pRound kn' (xs.drop i)).1, lf ++ (pRound kn' (xs.drop i)).2.1, m || (pRound kn' (xs.drop i)).2.2)) ∧ Hid (Chg (fun x => x = g) w wr)) (fun _ _ i _ => n - (intOf i).toNat)
  case atStart => exact ⟨0, kn, [], false, S0, Nat.zero_le _, rfl, rfl, Own.nil, Nat.le_refl _, Hk, hkl, Hkk, fun x h => ⟨(HS.out x h).1, (HS.out x h).2.1, (HS.out x h).2.2, by simp [Value.ownBlock]⟩, rfl, Chg.refl _ _⟩
  case round =>
    obtain ⟨i, kn', lf, m, S, hi, rfl, rfl, HO, hlf, HK, hkl', HKK, HSS, HR, HC⟩ := hrel
    have HDw : Hid (wr.heap[d]? = some (.cells #[.slice (some ⟨g, 0, none⟩) b b, .slice A n c] 110 (0, 0))) := HC.out.blk Hd.out hdg
    have hszw := HC.out.size
    by_cases hlt : i < n
    · have hxw := Hx.out.chg (sSm.low N) HC.out fun b hb => ⟨hb.1, fun e => hb.2.2 e⟩
      obtain ⟨ad, rfl, hE⟩ := hxw.els (by omega)
      obtain ⟨x, hxi, hrx⟩ := hE.row hlt
      obtain ⟨A3, n3, c3, ⟨m0, m1⟩, wx, ⟨k1, k2, k3⟩, hby⟩ := eSm_iff.1 (eLow_iff.1 hrx)
      have m0 : wr.cell? (ad.add (i * 2)) = some (.int .i64 x.id) := by simpa [Addr.add] using m0
      have m1 : wr.cell? ⟨(ad.add (i * 2)).block, (ad.add (i * 2)).off + 1, none⟩ = some (.slice A3 n3 c3) := by simpa [Addr.add] using m1
      obtain ⟨id1, id2, hxK⟩ := Hfx.out x (List.mem_of_getElem? hxi)
      obtain rfl : n3 = K := hby.1.symm.trans hxK
      have HP1 := Lib.hid (pRound_at (kn := kn') hxi)
      have HPC := Lib.hid (pOne_cases kn' x)
      have HTF := Lib.hid (told_facts hK HKK.out (pickHas x.id.toNat kn'.length) hxK)
      have HKL1 := Lib.hid (pOne_knLen hK HKK.out hxK)
      rw [hkl'] at HTF HPC
      obtain ⟨q, hq⟩ : ∃ q, q = wr.heap.size := ⟨_, rfl⟩
      obtain ⟨W5, hW5⟩ : ∃ W5, W5 = wr.alloc (.cells #[.int .i64 x.id, .slice A3 n3 c3] 53) := ⟨_, rfl⟩
      have HX5 : Hid (W5.heap[q]? = some (.cells #[.int .i64 x.id, .slice A3 n3 c3] 53 (0, 0))) := by rw [hW5]; exact heap_new hq
      have HF5 : Hid (Fr wr W5) := by rw [hW5]; exact frAlloc _ _
      have hD5 := blk_go HDw.out HF5.out
      have hX5 := HX5.out
      (obtain ⟨z0, z1⟩ := box2_ hX5)
      (obtain ⟨y0, y1⟩ := box2_ hD5)
      have HBY := Lib.hid (hby.keep (w' := W5) sByte fun p hp => HF5.out.cell (Nat.lt_of_lt_of_le hp.1.1 hszw))
      have HW5 := Lib.hid hW5
      have hqs : w.heap.size ≤ q := by omega
      (have Hxi := Lib.hid hxi; clear hxi; have Hq := Lib.hid hq; clear hq; have HxK := Lib.hid hxK; clear hxK; have HD5 := Lib.hid hD5; clear hD5)
      clear hxw hE hrx wx hW5 hby hX5
      go_wp2_with fail
      rw [← HW5.out, ← Hq.out]
      clear m0 m1
      have CP := Lib.hid (fun W => pick_eq W _ _ id1 id2 b1 b2)
      go_region_held3 (fun w' => w'.cell? ⟨q, 0, none⟩ = some (.int .i64 x.id) ∧ w'.cell? ⟨d, 0, none⟩ = some (.slice (some ⟨g, 0, none⟩) b b)) (first | exact ⟨z0, y0⟩ | go_keep)
        (first
          | (go_at_call 29; (with_reducible refine (CP.out W5.drew).mono ?_); rintro e w6 ⟨A6, c6, rfl, hs6, hf⟩; have hz6 := (cell_of_heap (i := 0) (blk_go (heap_d (w := W5) HX5.out) hf)); have hy6 := (cell_of_heap (i := 0) (blk_go (heap_d (w := W5) HD5.out) hf)))
          | fail)
      have HF6 : Hid (Fr wr w6) := Fr.trans HF5.out.drew hf
      have HX6 := Lib.hid (blk_go (heap_d HX5.out) hf)
      have hD6 := Lib.hid (blk_go (heap_d HD5.out) hf)
      have hX6 := HX6.out
      clear hz6 hy6
      (obtain ⟨z0, z1⟩ := box2_ hX6)
      obtain ⟨H, hH⟩ : ∃ H, H = pickHas x.id.toNat b := ⟨_, rfl⟩
      rw [← hH] at hs6 HTF HPC
      have HHL : Hid (H.length = b) := by rw [hH]; exact length_pickHas _ _
      obtain ⟨W7, hW7⟩ : ∃ W7, W7 = w6.alloc (.cells #[.slice A3 n3 c3] 27) := ⟨_, rfl⟩
      obtain ⟨q7, hq7⟩ : ∃ q7, q7 = w6.heap.size := ⟨_, rfl⟩
      have HF67 : Hid (Fr w6 W7) := by rw [hW7]; exact frAlloc _ _
      have HF7 : Hid (Fr wr W7) := HF6.out.trans HF67.out
      have HBY6 : Hid (Sl 1 eByte w6 (fun b => (b < w.heap.size ∧ b ≠ d ∧ b ≠ g) ∧ b < N) A3 n3 x.data) := HBY.out.keep sByte fun p hp => by
        have h1 : p.block < wr.heap.size := Nat.lt_of_lt_of_le hp.1.1 hszw
        exact (HF6.out.cell h1).trans (HF5.out.cell h1).symm
      have hwr6 := HF6.out.size
      have HO7 : Hid (Own 1 eBlock W7 w6.heap.size 27 (.slice (some ⟨q7, 0, none⟩) 1 1) (x.data :: got H kn' 0)) := by
        refine own_one (vs := [.slice A3 n3 c3]) wBlock (Nat.le_of_eq hq7.symm) (by rw [hW7]; exact heap_new hq7) rfl ⟨A3, n3, c3, rfl, ⟨k1, k2, k3⟩, (HBY6.out.keep (w' := W7) sByte fun p hp => HF67.out.cell (by have := hp.1.1; omega)).more sByte fun y hy => ?_⟩
        have h2 := HF67.out.size
        exact ⟨by have := hy.1.1; omega, by have := hy.1.1; omega⟩
      have HS6 := Lib.hid hs6
      have HK6 := Lib.hid (HK.out.fr HF6.out fun y hy => (HSS.out y hy).1)
      have HD6 := Lib.hid hD6
      have hX7 := blk_go HX6.out HF67.out
      have HW7 := Lib.hid hW7
      have HQ7 := Lib.hid hq7
      have HOr := Lib.hid (HO.out.fr (sSm.low N) HF6.out)
      (have HH := Lib.hid hH; clear hH)
      clear hs6 hf hD6 hX6 hW7 hq7 y0 y1
      go_wp2_with fail
      rw [← HW7.out, ← HQ7.out]
      clear z0 z1
      (obtain ⟨z0, z1⟩ := box2_ hX7)
      clear hX7
      obtain ⟨wo, rfl⟩ : ∃ wo : World, wo = wr := ⟨_, rfl⟩
      go_loopw [9, 10, 11, 39] (fun s9 s10 s11 s39 wy => ∃ (k : Nat), k ≤ b ∧ s39 = .int .i64 k ∧ s9 = .int .i64 ((miss H kn' k).length : Nat) ∧ s10 = .int .i64 (((miss H kn' k).getLastD 0 : Nat) : Int) ∧ Hid (Own 1 eBlock wy w6.heap.size 27 s11 (x.data :: got H kn' k)) ∧ Hid (Fr w6 wy)) (fun _ _ _ i _ => b - (intOf i).toNat)
      case atStart => exact ⟨0, Nat.zero_le _, rfl, rfl, rfl, HO7, HF67⟩
      case round =>
        obtain ⟨k, hkb, rfl, rfl, rfl, HOy, HFy⟩ := hrel
        obtain ⟨wy, rfl⟩ : ∃ wy : World, wy = wr := ⟨_, rfl⟩
        clear z0 z1
        have HKy := Lib.hid (HK6.out.fr HFy.out fun y hy => Nat.lt_of_lt_of_le (HSS.out y hy).1 hwr6)
        have hDy := blk_go HD6.out HFy.out
        have hXy := blk_go HX6.out HFy.out
        (obtain ⟨y0, y1⟩ := box2_ hDy)
        (obtain ⟨z0, z1⟩ := box2_ hXy)
        have HDy := Lib.hid hDy
        have HXy := Lib.hid hXy
        clear hDy hXy
        by_cases hkl : k < b
        · obtain ⟨adh, rfl, hEh⟩ := HS6.out.els (by omega)
          obtain ⟨hbk, hhk, hcb⟩ := hEh.bool hkl
          have hcb' : wy.cell? (adh.add k) = some (.bool hbk) := (HFy.out.cell (p := adh.add k) (by rw [block_of_add]; exact hEh.2.1)).trans hcb
          obtain ⟨xo, v, hxo, hcv, hkv⟩ := HKy.out.get (i := k) (by rw [hkl']; exact hkl)
          have hml := length_miss H kn' k
          obtain ⟨mk, hmk⟩ : ∃ mk, mk = (miss H kn' k).length := ⟨_, rfl⟩
          obtain ⟨la, hla⟩ : ∃ la, la = (miss H kn' k).getLastD 0 := ⟨_, rfl⟩
          rw [← hmk] at hml
          rw [← hmk, ← hla]
          (have Hmk := Lib.hid hmk; clear hmk; have Hla := Lib.hid hla; clear hla)
          have hgl := length_got H kn' k
          clear hEh hcb
          cases hbk with
          | false =>
            have HMG := Lib.hid (not_in (kn := kn') hhk)
            clear hhk hxo hkv hcv
            go_wp2_with fail
            go_roundw
            case rel => exact ⟨k + 1, by omega, by go_num, by rw [HMG.out.1, ← Hmk.out], by rw [HMG.out.1, ← Hla.out], by rw [HMG.out.2]; exact HOy, HFy⟩
            case measure => simp [intOf]; omega
          | true =>
            rcases hkv with ⟨rfl, rfl⟩ | ⟨l, adl, cl, rfl, rfl, hcl, hsl⟩
            · have HMG := Lib.hid (miss_in hhk hxo)
              clear hhk hxo
              go_wp2_with (refine wpList_nil rfl (.tmp 53) 27 _ 5 rfl Try.underlying27 rfl true rfl ?_)
              go_roundw
              case rel => exact ⟨k + 1, by omega, by go_num, by rw [HMG.out.1, List.length_append, ← Hmk.out]; go_num, by rw [HMG.out.1]; simp, by rw [HMG.out.2]; exact HOy, HFy⟩
              case measure => simp [intOf]; omega
            · have HMG := Lib.hid (got_in hhk hxo)
              have HSL := Lib.hid hsl
              have hgl2 : (x.data :: got H kn' k).length ≤ 25 := by simp; omega
              obtain ⟨L, hL⟩ : ∃ L, L = x.data :: got H kn' k := ⟨_, rfl⟩
              have HN : Hid (x.data :: got H kn' (k + 1) = L ++ [l]) := by rw [Hid, HMG.out.2, hL]; rfl
              rw [← hL] at hgl2 HOy
              have hyy : Hid (eBlock wy (fun b => b < wy.heap.size ∧ u11.ownBlock ≠ some b) (fun j => [Value.slice (some adl) n3 cl][j]?) l) := by
                refine ⟨some adl, n3, cl, rfl, ⟨by unfold lim; omega, hcl.1, hcl.2⟩, hsl.more sByte fun y hy => ?_⟩
                have h1 := HSS.out y hy
                have h2 := HFy.out.size
                exact ⟨by omega, fun e => by have := (HOy.out.lt e).1; omega⟩
              have hone : Hid (∀ u ∈ [Value.slice (some adl) n3 cl], u.oneCell' = true) := by intro u hu; simp at hu; subst hu; rfl
              have hLs : (L.length + 1) * 24 ≤ lim := by unfold lim; omega
              have hLm : L.length + 1 ≤ maxLen := by unfold maxLen; omega
              have hbb : w6.heap.size ≤ wy.heap.size := HFy.out.size
              (have HL := Lib.hid hL; clear hL)
              clear hhk hxo hsl
              go_wp2_with (first | (refine wpList_nil rfl (.tmp 53) 27 _ 5 rfl Try.underlying27 rfl false rfl ?_) | (at_builtin; refine wpList_app1 rfl _ _ 35 rfl w6.heap.size 27 (.slice none 0 0) 24 Try.underlying35 infoBlock rfl (by decide) wBlock wy (frAlloc _ _) _ L rfl HOy.out wy.heap.size [.slice (some adl) n3 cl] 27 (0, 0) rfl (heap_new rfl) rfl hone.out l hyy.out hLm hLs w6.heap.size w6 HFy.out (Nat.le_refl _) hbb ?_))
              intro v' w3 HO3 HF3
              go_wp2_with fail
              go_roundw
              case rel => exact ⟨k + 1, by omega, by go_num, by rw [HMG.out.1, ← Hmk.out], by rw [HMG.out.1, ← Hla.out], by rw [HN.out]; exact HO3, HF3⟩
              case measure => simp [intOf]; omega
        · obtain rfl : k = b := by omega
          have HFr : Hid (Fr wo wy) := HF6.out.trans HFy.out
          have HOw := Lib.hid (HOr.out.fr (sSm.low N) HFy.out)
          have HBYy : Hid (Sl 1 eByte wy (fun b => (b < w.heap.size ∧ b ≠ d ∧ b ≠ g) ∧ b < N) A3 n3 x.data) := HBY6.out.keep sByte fun p hp => HFy.out.cell (by have := hp.1.1; omega)
          have hwy := HFy.out.size
          rcases HPC.out with ⟨a, hm, ha, hha, hak, epo⟩ | ⟨hm, epo⟩ | ⟨hm, epo⟩
          · have e1 : (miss H kn' k).length = 1 := by rw [hm]; rfl
            have e2 : (miss H kn' k).getLastD 0 = a := by rw [hm]; rfl
            rw [e1, e2]
            obtain ⟨T, hT⟩ : ∃ T, T = told H x.data kn' := ⟨_, rfl⟩
            rw [← hT] at HTF epo
            have hkl1 : (kn'.set a (some T)).length = k := by rw [List.length_set]; exact hkl'
            have hgl3 := length_got H kn' k
            obtain ⟨A8, c8, rfl, ⟨hc8, hm8⟩, hs8⟩ := HOy.out.slC wBlock (by decide)
            obtain ⟨n8, hn8⟩ : ∃ n8, n8 = (x.data :: got H kn' k).length := ⟨_, rfl⟩
            have hn8b : n8 ≤ 25 := by rw [hn8]; simp; omega
            rw [← hn8] at hs8 hc8 ⊢
            have CS := Lib.hid (sumAdd_nw wy.drew A8 n8 c8 (x.data :: got H kn' k) (hs8.keep wBlock fun _ _ => rfl) (by unfold lim; omega))
            rw [HTF.out.1] at CS
            obtain ⟨xo, va, hxo, hva, _⟩ := HKy.out.get (i := a) (by omega)
            have HVA := Lib.hid hva
            have HFA : Hid (wy.frozen? ⟨g, a, none⟩ = false) := HKy.out.free
            have HR' : Hid (pRound kn xs = ((pRound (kn'.set a (some T)) (xs.drop (i + 1))).1, lf ++ (pRound (kn'.set a (some T)) (xs.drop (i + 1))).2.1, true || (pRound (kn'.set a (some T)) (xs.drop (i + 1))).2.2)) := by
              have := pRound_step HR.out Hxi.out epo
              rwa [List.append_nil, Bool.or_true] at this
            have HKK' : Hid (KnLen n3 (kn'.set a (some T))) := by
              have := HKL1.out
              rw [epo] at this; exact this
            have hak2 : a < kn'.length := by omega
            have hgw : g < wy.heap.size := by omega
            have NE : g ≠ d := fun e => hdg e.symm
            (have Hs8 := Lib.hid hs8; clear hs8; have Hn8 := Lib.hid hn8; clear hn8; have HT := Lib.hid hT; clear hT)
            clear hm e1 e2 hxo hha hak epo hva
            go_wp2_with fail
            go_region_held3 (fun w' => w'.cell? ⟨d, 0, none⟩ = some (.slice (some ⟨g, 0, none⟩) k k)) (first | exact y0 | exact (set1_far NE).trans hy9 | go_keep)
              (first
                | (go_at_call 76; (with_reducible refine CS.out.mono ?_); rintro e w9 ⟨A9, n9, c9, rfl, ⟨_, hn9, hc9⟩, h19, hs9, hf9⟩; have hy9 : w9.cell? ⟨d, 0, none⟩ = some (.slice (some ⟨g, 0, none⟩) k k) := (cell_of_heap (i := 0) (blk_go (heap_d (w := wy) HDy.out) hf9)); have hv9 : w9.cell? ⟨g, a, none⟩ = some va := (hf9.cell (p := ⟨g, a, none⟩) hgw).trans HVA.out; have hv8 : w9.frozen? ⟨g, a, none⟩ = false := (hf9.frozen (p := ⟨g, a, none⟩) hgw).trans HFA.out; have hfy : Fr wy w9 := Fr.trans (Below.refl _ _).drew hf9; have HFY9 := Lib.hid hfy; have HS9 := Lib.hid hs9; have H19 := Lib.hid (h19 (by trivial)); clear hf9 hs9 h19 hfy)
                | fail)
            obtain rfl : n9 = n3 := HS9.out.1.symm.trans HTF.out.2.1
            obtain ⟨ad9, rfl, _⟩ := HS9.out.els H19.out
            have hw9 := HFY9.out.size
            have HFr9 : Hid (Fr wo w9) := HFr.out.trans HFY9.out
            have HO10 : Hid (Own 2 (eLow N eSm) (w9.setCell ⟨g, a, none⟩ (.slice (some ad9) n9 c9)) w.heap.size 53 u4 lf) :=
              (HOw.out.fr (sSm.low N) HFY9.out).lowChg sSm (Chg.set (S := fun y => y = g) (p := ⟨g, a, none⟩) (Chg.refl _ w9) rfl _) fun y hy => by rw [hy]; exact ⟨hNg, hgl⟩
            have HK10 : Hid (KnM n9 (w9.setCell ⟨g, a, none⟩ (.slice (some ad9) n9 c9)) (fun y => S y ∨ (wy.heap.size ≤ y ∧ y < w9.heap.size)) g (kn'.set a (some T))) := by
              refine KnM.set ((HKy.out.fr HFY9.out fun y hy => ?_).more fun y hy => .inl hy) (fun h => ?_) hak2 ⟨hn9, by have := hc9; unfold maxLen; omega⟩ (HS9.out.more sByte fun y hy => .inr hy)
              · have := HSS.out y hy; omega
              · rcases h with h | h
                · exact (HSS.out g h).2.2.1 rfl
                · omega
            have HSS' : Hid (∀ y, (S y ∨ (wy.heap.size ≤ y ∧ y < w9.heap.size)) → y < (w9.setCell ⟨g, a, none⟩ (.slice (some ad9) n9 c9)).heap.size ∧ y ≠ d ∧ y ≠ g ∧ u4.ownBlock ≠ some y) := fun y hy => by
              rw [size_setCell]
              rcases hy with hy | hy
              · have := HSS.out y hy
                exact ⟨by omega, this.2⟩
              · exact ⟨by omega, by omega, by omega, fun e => by have := (HOw.out.lt e).2; omega⟩
            have HC' : Hid (Chg (fun x => x = g) w (w9.setCell ⟨g, a, none⟩ (.slice (some ad9) n9 c9))) := Chg.set (S := fun y => y = g) (p := ⟨g, a, none⟩) (HC.out.trans HFr9.out.chg) rfl _
            clear hy9 hv9 hv8
            go_wp2_with fail
            go_roundw
            case rel => exact ⟨i + 1, _, lf, true, _, by omega, rfl, by go_num, HO10, by omega, HK10, hkl1, HKK', HSS', HR', HC'⟩
            case measure => simp [intOf]; omega
          · have hm : 1 < (miss H kn' k).length := hm
            have hml := length_miss H kn' k
            obtain ⟨mk, hmk⟩ : ∃ mk, mk = (miss H kn' k).length := ⟨_, rfl⟩
            rw [← hmk] at hm hml ⊢
            have HR' : Hid (pRound kn xs = ((pRound kn' (xs.drop (i + 1))).1, (lf ++ [x]) ++ (pRound kn' (xs.drop (i + 1))).2.1, m || (pRound kn' (xs.drop (i + 1))).2.2)) := by
              have := pRound_step HR.out Hxi.out epo
              rwa [Bool.or_false] at this
            have hyy : Hid (eLow N eSm wy (fun b => b < wy.heap.size ∧ u4.ownBlock ≠ some b) (fun j => [Value.int .i64 x.id, .slice A3 n3 c3][j]?) x) := by
              refine eLow_iff.2 (eSm_iff.2 ⟨A3, n3, c3, ⟨rfl, rfl⟩, wfI.mk (by omega), ⟨k1, k2, k3⟩, HBYy.out.more sByte fun y hy => ⟨⟨by have := hy.1.1; omega, fun e => ?_⟩, hy.2⟩⟩)
              have h1 := (HOw.out.lt e).1
              have := hy.1.1
              omega
            have hone : Hid (∀ u ∈ [Value.int .i64 x.id, .slice A3 n3 c3], u.oneCell' = true) := by intro u hu; simp at hu; rcases hu with rfl | rfl <;> rfl
            have hLs : (lf.length + 1) * 32 ≤ lim := by unfold lim; omega
            have hLm : lf.length + 1 ≤ maxLen := by unfold maxLen; omega
            have hbb : w.heap.size ≤ wy.heap.size := by omega
            clear hmk epo
            go_wp2_with (at_builtin; refine wpList_app1o rfl _ _ 50 rfl w.heap.size 53 (.agg #[.int .i64 0, .slice none 0 0]) 32 Try.underlying50 infoSym rfl (by decide) (sSm.low N) wy (frAlloc _ _) _ lf rfl HOw.out wy.heap.size [.int .i64 x.id, .slice A3 n3 c3] 53 (0, 0) rfl (heap_new rfl) rfl hone.out x hyy.out hLm hLs hbb ?_)
            intro v' w3 HO3 HC3 HL3
            have HK3 : Hid (KnM n3 w3 S g kn') := HKy.out.chg HC3.out (fun e => by have := (HOw.out.lt e).1; omega) fun y hy => by
              have := HSS.out y hy
              exact ⟨by omega, this.2.2.2⟩
            have hw3 := HC3.out.size
            have HSS' : Hid (∀ y, S y → y < w3.heap.size ∧ y ≠ d ∧ y ≠ g ∧ v'.ownBlock ≠ some y) := fun y hy => by
              have h1 := HSS.out y hy
              refine ⟨by omega, h1.2.1, h1.2.2.1, fun e => ?_⟩
              rcases HL3.out y e with e | e
              · exact h1.2.2.2 e
              · omega
            have HC' : Hid (Chg (fun x => x = g) w w3) := (HC.out.trans HFr.out.chg).transN HC3.out fun y hy => .inr (HOw.out.lt hy).1
            go_wp2_with fail
            go_roundw
            case rel => exact ⟨i + 1, kn', lf ++ [x], m, S, by omega, rfl, by go_num, HO3, by simp; omega, HK3, hkl', HKK, HSS', HR', HC'⟩
            case measure => simp [intOf]; omega
          · have hmk : (miss H kn' k).length = 0 := hm
            have HR' : Hid (pRound kn xs = ((pRound kn' (xs.drop (i + 1))).1, lf ++ (pRound kn' (xs.drop (i + 1))).2.1, m || (pRound kn' (xs.drop (i + 1))).2.2)) := by
              have := pRound_step HR.out Hxi.out epo
              rwa [List.append_nil, Bool.or_false] at this
            have HSS' : Hid (∀ y, S y → y < wy.heap.size ∧ y ≠ d ∧ y ≠ g ∧ u4.ownBlock ≠ some y) := fun y hy => by
              have := HSS.out y hy
              exact ⟨by omega, this.2⟩
            have HC' : Hid (Chg (fun x => x = g) w wy) := HC.out.trans HFr.out.chg
            rw [hmk]
            clear hm hmk epo
            go_wp2_with fail
            go_roundw
            case rel => exact ⟨i + 1, kn', lf, m, S, by omega, rfl, by go_num, HOw, by omega, HKy, hkl', HKK, HSS', HR', HC'⟩
            case measure => simp [intOf]; omega
    · obtain rfl : i = n := by omega
      have HE : Hid (pRound kn xs = (kn', lf, m)) := by
        have := HR.out
        rw [List.drop_eq_nil_of_le (by rw [Hxl.out]; exact Nat.le_refl _)] at this
        rw [Hid, this]
        simp [pRound]
      obtain ⟨A', c', rfl, ⟨hc', hm'⟩, hs'⟩ := HO.out.lowOut sSm
      have hD := HDw.out
      (obtain ⟨y0, y1⟩ := box2_ hD)
      have f1 := blk_free (i := 1) HDw.out
      have hDl := (Array.getElem?_eq_some_iff.1 hD).1
      obtain ⟨nl, hnl⟩ : ∃ nl, nl = lf.length := ⟨_, rfl⟩
      rw [← hnl] at hs' hc' hlf ⊢
      have hfar : ∀ p : Addr, p.block ≠ d → (wr.setCell ⟨d, 1, none⟩ (.slice A' nl c')).cell? p = wr.cell? p := fun p hp => World.cell?_setCell_other _ _ _ _ fun e => hp (by rw [← e])
      have HD' : Hid ((wr.setCell ⟨d, 1, none⟩ (.slice A' nl c')).heap[d]? = some (.cells #[.slice (some ⟨g, 0, none⟩) b b, .slice A' nl c'] 110 (0, 0))) := by
        unfold Hid
        simp [World.setCell, Array.getElem?_modify, hD]
      have HKf : Hid (KnM K (wr.setCell ⟨d, 1, none⟩ (.slice A' nl c')) (fun x => x < (wr.setCell ⟨d, 1, none⟩ (.slice A' nl c')).heap.size ∧ x ≠ d ∧ x ≠ g) g kn') := by
        refine (HK.out.chg (Chg.set (S := fun y => y = d) (p := ⟨d, 1, none⟩) (Chg.refl _ wr) rfl _) (fun e => hdg e.symm) fun y hy => ⟨(HSS.out y hy).1, (HSS.out y hy).2.1⟩).more fun y hy => ?_
        rw [size_setCell]
        exact ⟨(HSS.out y hy).1, (HSS.out y hy).2.1, (HSS.out y hy).2.2.1⟩
      have HSf : Hid (Sl 2 (eLow N eSm) (wr.setCell ⟨d, 1, none⟩ (.slice A' nl c')) (fun x => x < (wr.setCell ⟨d, 1, none⟩ (.slice A' nl c')).heap.size ∧ x ≠ d ∧ x ≠ g) A' nl lf) := by
        rw [size_setCell]
        refine (hs'.keep (sSm.low N) fun p hp => hfar p ?_).more (sSm.low N) fun y hy => ⟨hy.1, by omega, by omega⟩
        have := hp.2; omega
      have HCf : Hid (Chg (fun x => x = d ∨ x = g) w (wr.setCell ⟨d, 1, none⟩ (.slice A' nl c'))) := Chg.set (S := fun y => y = d ∨ y = g) (p := ⟨d, 1, none⟩) (HC.out.more fun y hy => .inr hy) (.inl rfl) _
      clear hs' hD hfar hnl
      go_wp2_with fail
      go_ret
      rw [HE.out]
      exact ⟨A', nl, c', rfl, HD'.out, by omega, HKf.out, HSf.out, HCf.out⟩
end Go.Proofs.Ytnfjghldcopaaaa
namespace Go.Proofs.Ytnfjghldcopaaaa
open Go.RowKit
attribute [local irreducible] wpList

/-- The first symbol that is none of the plan. -/
def symsErr (B K : Int) : List Sm → Int
  | [] => 0
  | x :: xs => if codeCheck B K x.id x.data.length ≠ 0 then codeCheck B K x.id x.data.length else symsErr B K xs
theorem symsErr_ok {B K : Int} : ∀ {xs : List Sm}, symsErr B K xs = 0 ↔ ∀ x ∈ xs, codeCheck B K x.id x.data.length = 0
  | [] => ⟨fun _ _ h => absurd h (by simp), fun _ => rfl⟩
  | x :: xs => by
    rw [symsErr]
    by_cases h : codeCheck B K x.id x.data.length = 0
    · rw [if_neg (by simp [h]), symsErr_ok]
      exact ⟨fun h2 => List.forall_mem_cons.2 ⟨h, h2⟩, fun h2 => (List.forall_mem_cons.1 h2).2⟩
    · rw [if_pos h]
      exact ⟨fun h2 => absurd h2 h, fun h2 => absurd (h2 x (by simp)) h⟩
/-- What peel.Known answers. -/
def peelKn (B K : Int) (xs : List Sm) : Kn × Int :=
  if cutCheck B K ≠ 0 then ([], cutCheck B K) else if 60 < xs.length then ([], 2) else if symsErr B K xs ≠ 0 then ([], symsErr B K xs) else (peelF (blocksOf B K).toNat xs, 0)
def PeelPost (K : Int) (w : World) (x : Kn × Int) (e : Ending) (w' : World) : Prop :=
  Fr w w' ∧ ((x.1 = [] ∧ x.2 ≠ 0 ∧ e = .returned (.tuple #[.slice none 0 0, .int .i64 x.2])) ∨ (x.2 = 0 ∧ ∃ g n : Nat, e = .returned (.tuple #[.slice (some ⟨g, 0, none⟩) n n, .int .i64 0]) ∧ x.1.length = n ∧ (1 ≤ n ∧ n ≤ 24) ∧ KnM K.toNat w' (fun y => y < w'.heap.size ∧ y ≠ g) g x.1))
theorem peelPost_err {K er : Int} {w w' : World} {x : Kn × Int} (hx : x = ([], er)) (he : er ≠ 0) (hf : Fr w w') : PeelPost K w x (.returned (.tuple #[.slice none 0 0, .int .i64 er])) w' := by
  subst hx
  exact ⟨hf, .inl ⟨rfl, he, rfl⟩⟩

def isNil : Value → Bool
  | .slice none _ _ => true
  | _ => false
/-- How many cells of a block are nil. -/
def nilsAt (g : Nat) (w : World) : Nat :=
  match w.heap[g]? with
  | some (.cells cs _ _) => cs.toList.countP isNil
  | _ => 0
theorem nilsAt_kn {K : Nat} {w : World} {S : Nat → Prop} {g : Nat} {kn : Kn} (h : KnM K w S g kn) : nilsAt g w = nones kn := by
  obtain ⟨vs, h1, h2, h3⟩ := h
  unfold nilsAt nones
  rw [h1]
  show vs.countP isNil = kn.countP _
  have key : ∀ (vs : List Value) (kn : Kn), vs.length = kn.length → (∀ (i : Nat) (x : Option (List UInt8)), kn[i]? = some x → ∃ v, vs[i]? = some v ∧ KnV K w S v x) → vs.countP isNil = kn.countP fun x => x.isNone := by
    intro vs
    induction vs with
    | nil => intro kn hl _; cases kn with
      | nil => rfl
      | cons _ _ => simp at hl
    | cons v vs ih =>
      intro kn hl hk
      cases kn with
      | nil => simp at hl
      | cons x kn =>
        obtain ⟨v', hv', hkv⟩ := hk 0 x rfl
        simp at hv'
        subst hv'
        have ih' := ih kn (by simpa using hl) fun i x hx => by simpa using hk (i + 1) x (by simpa using hx)
        rw [List.countP_cons, List.countP_cons, ih']
        congr 1
        rcases hkv with ⟨rfl, rfl⟩ | ⟨l, ad, c, rfl, rfl, _⟩ <;> simp [isNil]
  exact key vs kn h2 h3
theorem knM_none {K n : Nat} {w : World} {S : Nat → Prop} {g : Nat} (h : w.heap[g]? = some (.cells (ca id (List.replicate n (Value.slice none 0 0))) 27 (0, 0))) : KnM K w S g (List.replicate n none) := by
  refine ⟨List.replicate n (.slice none 0 0), ?_, by simp, fun i x hx => ?_⟩
  · rw [h]; simp [ca]
  · rw [List.getElem?_replicate] at hx
    split at hx
    · rename_i hi
      injection hx with hx
      exact ⟨.slice none 0 0, by rw [List.getElem?_replicate, if_pos hi], .inl ⟨hx.symm, rfl⟩⟩
    · cases hx

set_option maxRecDepth 100000 in
set_option maxHeartbeats 4000000 in
theorem peelKn_good (w : World) (B : Int) (K b : Nat) (A : Option Addr) (n c : Nat) (xs : List Sm) (h : Sl 2 eSm w (LT w.heap.size) A n xs) (hn : n ≤ 60) (hck : cutCheck B K = 0) (hb : blocksOf B K = b) :
    Calls Try.prog 49 #[.agg #[.int .i64 B, .int .i64 K], .slice A n c] w (PeelPost K w (peelKn B K xs)) := by
  obtain ⟨⟨c1, c2⟩, ⟨c3, c4⟩, c5, c6, c7⟩ := cutCheck_ok hck
  have hd60 : decide ((60 : Int) < (n : Int)) = false := by simp; omega
  have hd61 : decide (60 < n) = false := by simp; omega
  have hlen := h.1
  have D0 : Hid (peelKn B K xs = if symsErr B K xs ≠ 0 then ([], symsErr B K xs) else (peelF b xs, 0)) := by
    unfold peelKn Hid
    rw [if_neg (by simp [hck]), if_neg (by omega), hb, Int.toNat_natCast]
  have b1 : 1 ≤ b := by omega
  have b2 : b ≤ 24 := by omega
  have hK : 1 ≤ K ∧ K ≤ 16 := by omega
  have wB : wfI B := wfI.mk (by omega)
  have wK : wfI (K : Int) := wfI.mk (by omega)
  have CB : Hid (∀ W : World, Calls Try.prog 41 #[.agg #[.int .i64 B, .int .i64 K]] W fun e w' => e = .returned (.int .i64 (b : Int)) ∧ Fr W w') := fun W => by
    have := cutBlocks_any W B K wB wK
    rw [hb] at this; exact this
  have hmk := run_make_ca (P := Try.prog) (id : Value → Value) (.slice none 0 0) 35 27 24 Try.underlying35 infoNB rfl .i64 .i64 b (by omega) (by omega)
  have HCK := Lib.hid hck
  have HL := Lib.hid hlen
  (have H := Lib.hid h; clear h)
  clear hck hb hlen c1 c2 c3 c4 c5 c6 c7
  go_enter Try.func49, Try.ntmps49
  go_wp2_with fail
  (with_reducible refine (cutCheck_any _ _ _ wB wK).mono ?_)
  rw [HCK.out]
  rintro e v1 ⟨rfl, hf⟩
  have HP1 : Hid (v1.heap[w.heap.size]? = some (.cells #[.int .i64 B, .int .i64 K] 47 (0, 0))) := blk_go (by (repeat' (with_reducible (first | (refine heap_new ?_; (first | (simp; done) | rfl); done) | refine heap_dn ?_ | refine heap_d ?_ | refine heap_old ?_)))) hf
  have HF1 : Hid (Fr w v1) := Fr.trans (by (repeat' (first | exact Below.refl _ _ | refine below_drewN ?_ _ | refine Below.drew ?_ | refine frA ?_ _))) hf
  have hp1 := HP1.out
  (obtain ⟨x0, x1⟩ := box2_ hp1)
  clear hf hp1
  go_wp2_with fail
  (with_reducible refine (CB.out _).mono ?_)
  rintro e v2 ⟨rfl, hf⟩
  have HP2 := Lib.hid (blk_go HP1.out hf)
  have HF2 : Hid (Fr w v2) := HF1.out.trans hf
  have hp2 := HP2.out
  (obtain ⟨x0, x1⟩ := box2_ hp2)
  have hwl := (Array.getElem?_eq_some_iff.1 hp2).1
  clear hf hp2
  obtain ⟨g, hg⟩ : ∃ g, g = v2.heap.size := ⟨_, rfl⟩
  obtain ⟨Wa, hWa⟩ : ∃ Wa, Wa = v2.alloc (.cells (ca id (List.replicate b (.slice none 0 0))) 27) := ⟨_, rfl⟩
  obtain ⟨d, hd⟩ : ∃ d, d = Wa.heap.size := ⟨_, rfl⟩
  obtain ⟨W2, hW2⟩ : ∃ W2, W2 = Wa.alloc (.cells #[.slice (some ⟨g, 0, none⟩) b b, .slice none 0 0] 110) := ⟨_, rfl⟩
  have hda : d = g + 1 := by rw [hd, hWa, hg]; simp
  have hz2 : W2.heap.size = d + 1 := by rw [hW2, hd]; simp
  have HFa2 : Hid (Fr Wa W2) := by rw [hW2]; exact frAlloc _ _
  have HF2a : Hid (Fr v2 Wa) := by rw [hWa]; exact frAlloc _ _
  have HFW : Hid (Fr w W2) := (HF2.out.trans HF2a.out).trans HFa2.out
  have HDW : Hid (W2.heap[d]? = some (.cells #[.slice (some ⟨g, 0, none⟩) b b, .slice none 0 0] 110 (0, 0))) := by rw [hW2]; exact heap_new hd
  have hKa : Wa.heap[g]? = some (.cells (ca id (List.replicate b (Value.slice none 0 0))) 27 (0, 0)) := by rw [hWa]; exact heap_new hg
  have HKW : Hid (KnM K W2 (fun y => y < W2.heap.size ∧ y ≠ d ∧ y ≠ g) g (List.replicate b none)) := knM_none (blk_go hKa HFa2.out)
  have HPW : Hid (W2.heap[w.heap.size]? = some (.cells #[.int .i64 B, .int .i64 K] 47 (0, 0))) := blk_go (blk_go HP2.out HF2a.out) HFa2.out
  have hwg : w.heap.size < g := by omega
  have HWa := Lib.hid hWa
  have HW2 := Lib.hid hW2
  have HDA := Lib.hid hda
  have hgd : g < d := by omega
  have hdW2 : d < W2.heap.size := by omega
  (have Hg := Lib.hid hg; clear hg)
  clear hWa hW2 hKa hd hda hz2
  go_wp2_with fail
  rw [← Hg.out, ← HDA.out, ← HWa.out, ← HW2.out]
  clear hmk x0 x1 HP1 HP2
  go_loopw [26] (fun s26 wr => ∃ (i : Nat) (v9 : Value), i ≤ n ∧ s26 = .int .i64 i ∧ Hid (wr.heap[d]? = some (.cells #[.slice (some ⟨g, 0, none⟩) b b, v9] 110 (0, 0))) ∧ Hid (Own 2 (eLow w.heap.size eSm) wr W2.heap.size 53 v9 (xs.take i)) ∧ Hid (Chg (fun x => x = d) W2 wr) ∧ Hid (symsErr B K xs = symsErr B K (xs.drop i)) ∧ Hid (∀ x ∈ xs.take i, codeCheck B K x.id x.data.length = 0)) (fun i _ => n - (intOf i).toNat)
  case atStart => exact ⟨0, .slice none 0 0, Nat.zero_le _, rfl, HDW, Own.nil, Chg.refl _ _, rfl, fun x h => by simp at h⟩
  case round =>
    obtain ⟨i, v9, hi, rfl, HD, HO, HC, HE, HA⟩ := hrel
    have HFr : Hid (Fr w wr) := HC.out.fr HFW.out fun y hy => by omega
    have HPr : Hid (wr.heap[w.heap.size]? = some (.cells #[.int .i64 B, .int .i64 K] 47 (0, 0))) := HC.out.blk HPW.out (by omega)
    have hpr := HPr.out
    (obtain ⟨x0, x1⟩ := box2_ hpr)
    have hdr := HD.out
    (obtain ⟨y0, y1⟩ := box2_ hdr)
    have hwr0 := (Array.getElem?_eq_some_iff.1 hpr).1
    have hwr7 := (Array.getElem?_eq_some_iff.1 hdr).1
    clear hpr hdr
    by_cases hlt : i < n
    · obtain ⟨ad, rfl, hE⟩ := H.out.els (by omega)
      obtain ⟨x, hx, hrx⟩ := hE.row hlt
      obtain ⟨A3, n3, c3, ⟨m0, m1⟩, wx, ⟨k1, k2, k3⟩, hby⟩ := eSm_iff.1 hrx
      have hadl : ad.block < w.heap.size := hE.2.1
      have m0 : wr.cell? (ad.add (i * 2)) = some (.int .i64 x.id) := (HFr.out.cell (by rw [block_of_add]; exact hadl)).trans (by simpa [Addr.add] using m0)
      have m1 : wr.cell? ⟨(ad.add (i * 2)).block, (ad.add (i * 2)).off + 1, none⟩ = some (.slice A3 n3 c3) := (HFr.out.cell (by show (ad.add (i * 2)).block < _; rw [block_of_add]; exact hadl)).trans (by simpa [Addr.add] using m1)
      have hdl := hby.1
      obtain ⟨q, hq⟩ : ∃ q, q = wr.heap.size := ⟨_, rfl⟩
      obtain ⟨W4, hW4⟩ : ∃ W4, W4 = wr.alloc (.cells #[.int .i64 x.id, .slice A3 n3 c3] 53) := ⟨_, rfl⟩
      have HX4 : Hid (W4.heap[q]? = some (.cells #[.int .i64 x.id, .slice A3 n3 c3] 53 (0, 0))) := by rw [hW4]; exact heap_new hq
      have HD4 : Hid (W4.heap[d]? = some (.cells #[.slice (some ⟨g, 0, none⟩) b b, v9] 110 (0, 0))) := by rw [hW4]; exact heap_old HD.out
      have HP4 : Hid (W4.heap[w.heap.size]? = some (.cells #[.int .i64 B, .int .i64 K] 47 (0, 0))) := by rw [hW4]; exact heap_old HPr.out
      have HF4 : Hid (Fr wr W4) := by rw [hW4]; exact frAlloc _ _
      have HQ := Lib.hid hq
      have HW4 := Lib.hid hW4
      obtain ⟨ck, hck⟩ : ∃ ck, ck = codeCheck B K x.id n3 := ⟨_, rfl⟩
      have CC := Lib.hid (fun W A c => codeCheck_any W B K x.id A n3 c wB wK)
      rw [← hck] at CC
      have HCK2 : Hid (codeCheck B K x.id x.data.length = ck) := by rw [Hid, hdl, hck]
      have HEX : Hid (symsErr B K xs = if ck ≠ 0 then ck else symsErr B K (xs.drop (i + 1))) := by
        rw [Hid, HE.out, drop_cons hx, symsErr, HCK2.out]
      have HTK : Hid (xs.take (i + 1) = xs.take i ++ [x]) := take_snoc' hx
      have hlq : d < q := by have := HC.out.size; omega
      have hone : Hid (∀ u ∈ [Value.int .i64 x.id, .slice A3 n3 c3], u.oneCell' = true) := by intro u hu; simp at hu; rcases hu with rfl | rfl <;> rfl
      have HBY := Lib.hid hby
      have WX := Lib.hid wx
      have hqd : q ≠ d := by omega
      (have Hdl := Lib.hid hdl; clear hdl; have Hck := Lib.hid hck; clear hck)
      clear hrx hE hx hby hq hW4 wx
      go_wp2_with fail
      rw [← HW4.out, ← HQ.out]
      clear x0 x1 y0 y1 m0 m1 HW4
      (with_reducible refine (CC.out _ _ _).mono ?_)
      rintro e v5 ⟨rfl, hf⟩
      have HX5 := Lib.hid (blk_go HX4.out hf)
      have HD5 := Lib.hid (blk_go HD4.out hf)
      have HF5 : Hid (Fr wr v5) := HF4.out.trans hf
      clear hf HX4 HD4 HP4 HF4 CC
      by_cases hc0 : ck = 0
      · have e1 : (ck != 0) = false := by simp [hc0]
        have HE' : Hid (symsErr B K xs = symsErr B K (xs.drop (i + 1))) := by rw [Hid, HEX.out, if_neg (by simp [hc0])]
        have HA' : Hid (∀ y ∈ xs.take (i + 1), codeCheck B K y.id y.data.length = 0) := fun y hy => by
          rw [HTK.out] at hy
          rcases List.mem_append.1 hy with hy | hy
          · exact HA.out y hy
          · obtain rfl := List.mem_singleton.1 hy; rw [HCK2.out]; exact hc0
        obtain ⟨L, hL⟩ : ∃ L, L = xs.take i := ⟨_, rfl⟩
        have hLl : L.length ≤ 60 := by rw [hL, List.length_take]; omega
        rw [← hL] at HO HTK
        have hLs : (L.length + 1) * 32 ≤ lim := by unfold lim; omega
        have hLm : L.length + 1 ≤ maxLen := by unfold maxLen; omega
        have HO5 := Lib.hid (HO.out.fr (sSm.low _) HF5.out)
        have hx5 := HX5.out
        (obtain ⟨z0, z1⟩ := box2_ hx5)
        have hd5 := HD5.out
        (obtain ⟨y0, y1⟩ := box2_ hd5)
        have f5 := blk_free (i := 1) hd5
        have hdl5 := (Array.getElem?_eq_some_iff.1 hd5).1
        have hbb : W2.heap.size ≤ v5.heap.size := Nat.le_trans HC.out.size HF5.out.size
        have hyy : Hid (eLow w.heap.size eSm v5 (fun b => b < v5.heap.size ∧ v9.ownBlock ≠ some b) (fun j => [Value.int .i64 x.id, .slice A3 n3 c3][j]?) x) := by
          refine eLow_iff.2 (eSm_iff.2 ⟨A3, n3, c3, ⟨rfl, rfl⟩, WX.out, ⟨k1, k2, k3⟩, (HBY.out.keep sByte fun p hp => (HFr.out.trans HF5.out).cell hp).more sByte fun y hy => ?_⟩)
          have hy : y < w.heap.size := hy
          have h1 := (HFr.out.trans HF5.out).size
          refine ⟨⟨by omega, fun e => ?_⟩, hy⟩
          have := (HO5.out.lt e).1
          omega
        have hfz : Hid (Fr v5 (v5.alloc (.cells #[.int .i64 x.id, .slice A3 n3 c3] 53)).drew) := (frAlloc _ _).drew
        (have HL := Lib.hid hL; clear hL)
        clear hx5 hd5 hc0 HEX HCK2
        have hnd : Hid (¬ v9.ownBlock = some d) := fun e => by have := (HO5.out.lt e).1; omega
        go_wp2_with fail
        go_region_law (refine step_app1o rfl _ _ 50 rfl W2.heap.size 53 (.agg #[.int .i64 0, .slice none 0 0]) 32 Try.underlying50 infoSym rfl (by decide) (sSm.low w.heap.size) v5 hfz.out _ L rfl HO5.out v5.heap.size [.int .i64 x.id, .slice A3 n3 c3] 53 (0, 0) rfl (heap_d (heap_new rfl)) rfl hone.out x hyy.out hLm hLs hbb ?_; intro v' w3 HO3 HC3 HL3; obtain ⟨Av, nv, cv, rfl⟩ := HO3.out.isSl; have hd3 := HC3.out.blk HD5.out hnd.out; have e31 := cell_of_heap (i := 1) hd3; have f31 := blk_free (i := 1) hd3)
        all_goals
          have hd3 := HC3.out.blk HD5.out hnd.out
          have HDf : Hid ((w3.setCell ⟨d, 1, none⟩ (.slice Av nv cv)).heap[d]? = some (.cells #[.slice (some ⟨g, 0, none⟩) b b, .slice Av nv cv] 110 (0, 0))) := by
            unfold Hid
            simp [World.setCell, Array.getElem?_modify, hd3]
          have HCf : Hid (Chg (fun x => x = d) W2 (w3.setCell ⟨d, 1, none⟩ (.slice Av nv cv))) := Chg.set (S := fun y => y = d) (p := ⟨d, 1, none⟩) ((HC.out.trans HF5.out.chg).transN HC3.out fun y hy => .inr (HO5.out.lt hy).1) rfl _
          have HOf : Hid (Own 2 (eLow w.heap.size eSm) (w3.setCell ⟨d, 1, none⟩ (.slice Av nv cv)) W2.heap.size 53 (.slice Av nv cv) (xs.take (i + 1))) := by
            rw [HTK.out]
            exact HO3.out.lowChg sSm (Chg.set (S := fun y => y = d) (p := ⟨d, 1, none⟩) (Chg.refl _ w3) rfl _) fun y hy => by omega
          clear hd3
          go_wp2_with fail
          go_roundw
          case rel => exact ⟨i + 1, _, by omega, by go_num, HDf, HOf, HCf, HE', HA'⟩
          case measure => simp [intOf]; omega
      · have e1 : (ck != 0) = true := by simp [hc0]
        have ED : Hid (peelKn B K xs = ([], ck)) := by
          rw [Hid, D0.out, HEX.out, if_pos hc0]
          exact if_pos hc0
        have hc1 : Hid (ck ≠ 0) := hc0
        clear hc0 HEX HCK2
        go_wp2_with fail
        go_ret2
        exact peelPost_err ED.out hc1.out (HFr.out.trans HF5.out)
    · obtain rfl : i = n := by omega
      have htk : xs.take i = xs := List.take_of_length_le (by rw [HL.out]; exact Nat.le_refl _)
      have hdr : xs.drop i = [] := List.drop_eq_nil_of_le (by rw [HL.out]; exact Nat.le_refl _)
      have he0 : symsErr B K xs = 0 := by rw [HE.out, hdr]; rfl
      have ED : Hid (peelKn B K xs = (peelF b xs, 0)) := by rw [Hid, D0.out, if_neg (by simp [he0])]
      have HX : Hid (∀ x ∈ xs, 0 ≤ x.id ∧ x.id ≤ 9999 ∧ x.data.length = K) := fun x hx => by
        obtain ⟨_, h1, h2⟩ := codeCheck_ok (HA.out x (by rw [htk]; exact hx))
        exact ⟨h1.1, h1.2, by omega⟩
      obtain ⟨A9, c9, rfl, ⟨hc9, hm9⟩, hs9⟩ := HO.out.lowOut sSm
      rw [htk, HL.out] at hs9 hc9
      rw [htk, HL.out] at HD
      have HK0 : Hid (KnM K wr (fun y => y < wr.heap.size ∧ y ≠ d ∧ y ≠ g) g (List.replicate b none)) := (HKW.out.chg HC.out (by omega) fun y hy => ⟨hy.1, hy.2.1⟩).more fun y hy => ⟨Nat.lt_of_lt_of_le hy.1 HC.out.size, hy.2⟩
      have HS0 : Hid (Sl 2 (eLow w.heap.size eSm) wr (fun y => y < wr.heap.size ∧ y ≠ d ∧ y ≠ g) A9 i xs) := hs9.more (sSm.low _) fun y hy => ⟨hy.1, by omega, by omega⟩
      have HR0 : Hid (∃ f, nones (List.replicate b (none : Option (List UInt8))) < f ∧ pRun f (List.replicate b none) xs = peelF b xs) := ⟨b + 1, by unfold nones; rw [List.countP_replicate]; simp, rfl⟩
      have hi60 : i ≤ 60 := hn
      clear hs9 htk hdr he0 HO HE HA hc9 hm9
      go_wp2_with fail
      go_loopw [47] (fun s47 wr => ∃ (A9 : Option Addr) (n9 c9 : Nat) (kn : Kn) (op : List Sm), Hid (wr.heap[d]? = some (.cells #[.slice (some ⟨g, 0, none⟩) b b, .slice A9 n9 c9] 110 (0, 0))) ∧ n9 ≤ 60 ∧ Hid (KnM K wr (fun y => y < wr.heap.size ∧ y ≠ d ∧ y ≠ g) g kn) ∧ kn.length = b ∧ Hid (KnLen K kn) ∧ Hid (Sl 2 (eLow w.heap.size eSm) wr (fun y => y < wr.heap.size ∧ y ≠ d ∧ y ≠ g) A9 n9 op) ∧ Hid (∀ x ∈ op, 0 ≤ x.id ∧ x.id ≤ 9999 ∧ x.data.length = K) ∧ Hid (∃ f, nones kn < f ∧ pRun f kn op = peelF b xs) ∧ Hid (Fr w wr)) (fun _ wr => nilsAt g wr)
      case atStart => exact ⟨A9, i, c9, _, xs, HD, hi60, HK0, by simp, (good_none b K fun _ => True).all, HS0, HX, HR0, HFr⟩
      case round =>
        obtain ⟨A9, n9, c9, kn, op, HD, hn9, HK, hkl, HKK, HS, HX, HR, HF⟩ := hrel
        obtain ⟨wo, rfl⟩ : ∃ wo : World, wo = wr := ⟨_, rfl⟩
        go_wp2_with fail
        (with_reducible refine (round_any _ b K w.heap.size d g _ A9 n9 c9 kn op ⟨b1, b2⟩ hK hkl HKK.out HD.out HK.out (fun x h => h) (by omega) (by omega) (by omega) HS.out hn9 HX.out).mono ?_)
        rintro e w5 ⟨A', n', c', rfl, hd', hn', hk', hs', hc'⟩
        have HF5 : Hid (Fr w w5) := hc'.fr HF.out fun y hy => by omega
        have HD5 := Lib.hid hd'
        have HK5 := Lib.hid hk'
        have HS5 := Lib.hid hs'
        have hle := nilsAt_kn HK.out
        have hle' := nilsAt_kn HK5.out
        have hnn := pRound_nones op kn
        obtain ⟨f, hf1, hf2⟩ := HR.out
        obtain ⟨f, rfl⟩ : ∃ f', f = f' + 1 := ⟨f - 1, by omega⟩
        rw [pRun] at hf2
        cases hm : (pRound kn op).2.2 with
        | true =>
          rw [hm, if_pos rfl] at hf2
          rw [hm] at hnn
          simp only [if_true] at hnn
          have HR' : Hid (∃ f, nones (pRound kn op).1 < f ∧ pRun f (pRound kn op).1 (pRound kn op).2.1 = peelF b xs) := ⟨f, by omega, hf2⟩
          have HX' : Hid (∀ x ∈ (pRound kn op).2.1, 0 ≤ x.id ∧ x.id ≤ 9999 ∧ x.data.length = K) := fun x hx => HX.out x (pRound_left hx)
          have HKK' : Hid (KnLen K (pRound kn op).1) := (pRound_good (b := kn.length) (G := fun _ => True) hK (.of trivial) ⟨rfl, HKK.out, fun _ _ _ => .of trivial⟩ fun x hx => ⟨(HX.out x hx).2.2, trivial⟩).all
          have hkl' : (pRound kn op).1.length = b := by rw [pRound_len, hkl]
          have hmeas : Hid (nilsAt g w5 < nilsAt g wo) := by rw [Hid, hle, hle']; omega
          clear hd' hk' hs' hc' hle hle' hnn hf1 hf2 hm
          go_wp2_with fail
          go_roundw
          case rel => exact ⟨A', n', c', _, _, HD5, hn', HK5, hkl', HKK', HS5, HX', HR', HF5⟩
          case measure => exact hmeas.out
        | false =>
          rw [hm, if_neg (by simp)] at hf2
          have hlp : (peelF b xs).length = b := length_peelF b xs
          have HKf : Hid (KnM K w5 (fun y => y < w5.heap.size ∧ y ≠ g) g (peelF b xs)) := by
            rw [← hf2]
            exact HK5.out.more fun y hy => ⟨hy.1, hy.2.2⟩
          have hd5 := HD5.out
          (obtain ⟨y0, y1⟩ := box2_ hd5)
          clear hd5 hd' hk' hs' hc' hle hle' hnn hf1 hf2 hm
          go_wp2_with fail
          go_ret2
          rw [ED.out]
          exact ⟨HF5.out, .inr ⟨rfl, g, b, rfl, hlp, ⟨b1, b2⟩, HKf.out⟩⟩

set_option maxRecDepth 100000 in
set_option maxHeartbeats 1000000 in
theorem peelKn_any (w : World) (B K : Int) (wB : wfI B) (wK : wfI K) (A : Option Addr) (n c : Nat) (xs : List Sm) (h : Sl 2 eSm w (LT w.heap.size) A n xs) (hnm : n ≤ maxLen) :
    Calls Try.prog 49 #[.agg #[.int .i64 B, .int .i64 K], .slice A n c] w (PeelPost K w (peelKn B K xs)) := by
  by_cases hck : cutCheck B K = 0
  · obtain ⟨c1, c2, c3, c4, _⟩ := cutCheck_ok hck
    by_cases hn : n ≤ 60
    · obtain ⟨k, rfl⟩ := Int.eq_ofNat_of_zero_le (show 0 ≤ K by omega)
      obtain ⟨b, hb⟩ := Int.eq_ofNat_of_zero_le (show 0 ≤ blocksOf B k by omega)
      exact peelKn_good w B k b A n c xs h hn hck hb
    · have ED : Hid (peelKn B K xs = ([], 2)) := by
        unfold peelKn Hid
        rw [if_neg (by simp [hck]), if_pos (by rw [h.1]; omega)]
      have hn1 : decide ((60 : Int) < (n : Int)) = true := by simp; omega
      have hn2 : decide (60 < n) = true := by simp; omega
      have HC := Lib.hid hck
      unfold maxLen at hnm
      clear h hck c1 c2 c3 c4 hn
      go_enter Try.func49, Try.ntmps49
      go_wp2_with fail
      (with_reducible refine (cutCheck_any _ _ _ wB wK).mono ?_)
      rw [HC.out]
      rintro e v1 ⟨rfl, hf⟩
      have HF1 : Hid (Fr w v1) := Fr.trans (by (repeat' (first | exact Below.refl _ _ | refine below_drewN ?_ _ | refine Below.drew ?_ | refine frA ?_ _))) hf
      clear hf
      go_wp2_with fail
      go_ret2
      exact peelPost_err ED.out (by decide) HF1.out
  · obtain ⟨ck, hk⟩ : ∃ ck, ck = cutCheck B K := ⟨_, rfl⟩
    have ED : Hid (peelKn B K xs = ([], ck)) := by
      unfold peelKn Hid
      rw [if_pos hck, hk]
    have e1 : (ck != 0) = true := by rw [hk, bne_iff_ne]; exact hck
    have hc1 : Hid (ck ≠ 0) := by rw [hk]; exact hck
    (have Hk := Lib.hid hk; clear hk)
    clear h hck
    go_enter Try.func49, Try.ntmps49
    go_wp2_with fail
    (with_reducible refine (cutCheck_any _ _ _ wB wK).mono ?_)
    rw [← Hk.out]
    rintro e v1 ⟨rfl, hf⟩
    have HF1 : Hid (Fr w v1) := Fr.trans (by (repeat' (first | exact Below.refl _ _ | refine below_drewN ?_ _ | refine Below.drew ?_ | refine frA ?_ _))) hf
    clear hf
    go_wp2_with fail
    go_ret2
    exact peelPost_err ED.out hc1.out HF1.out
end Go.Proofs.Ytnfjghldcopaaaa
namespace Go.Proofs.Ytnfjghldcopaaaa
open Go.RowKit
attribute [local irreducible] wpList

/-- peel.Known, where what it tells is known. -/
theorem peelKn_eq (w : World) (B K : Int) (wB : wfI B) (wK : wfI K) (A : Option Addr) (n c : Nat) (xs : List Sm) (h : Sl 2 eSm w (LT w.heap.size) A n xs) (hnm : n ≤ maxLen) (kn : Kn) (E : peelKn B K xs = (kn, 0)) :
    Calls Try.prog 49 #[.agg #[.int .i64 B, .int .i64 K], .slice A n c] w fun e w' => ∃ g m : Nat, e = .returned (.tuple #[.slice (some ⟨g, 0, none⟩) m m, .int .i64 0]) ∧ kn.length = m ∧ (1 ≤ m ∧ m ≤ 24) ∧ KnM K.toNat w' (fun y => y < w'.heap.size ∧ y ≠ g) g kn ∧ Fr w w' :=
  (peelKn_any w B K wB wK A n c xs h hnm).mono fun e w' ⟨hf, h⟩ => by
    rw [E] at h
    rcases h with ⟨_, h, _⟩ | ⟨_, g, m, h1, h2, h3, h4⟩
    · exact absurd rfl h
    · exact ⟨g, m, h1, h2, h3, h4, hf⟩
theorem KnM.some {K : Nat} {w : World} {S : Nat → Prop} {g i : Nat} {kn : Kn} {l : List UInt8} (h : KnM K w S g kn) (hi : kn[i]? = some (some l)) : ∃ ad c, w.cell? ⟨g, i, none⟩ = some (.slice (some ad) K c) ∧ (K ≤ c ∧ c ≤ maxLen) ∧ Sl 1 eByte w S (some ad) K l := by
  obtain ⟨vs, h1, h2, h3⟩ := h
  obtain ⟨v, hv, hk⟩ := h3 i _ hi
  rcases hk with ⟨hk, _⟩ | ⟨l', ad, c, e1, e2, e3, e4⟩
  · cases hk
  · injection e1 with e1
    subst e1 e2
    exact ⟨ad, c, by rw [cell_of_heap h1, List.getElem?_toArray]; exact hv, e3, e4⟩
theorem KnM.none {K : Nat} {w : World} {S : Nat → Prop} {g i : Nat} {kn : Kn} (h : KnM K w S g kn) (hi : kn[i]? = Option.some Option.none) : w.cell? ⟨g, i, .none⟩ = Option.some (.slice .none 0 0) := by
  obtain ⟨vs, h1, h2, h3⟩ := h
  obtain ⟨v, hv, hk⟩ := h3 i _ hi
  rcases hk with ⟨_, rfl⟩ | ⟨l', ad, c, e1, _⟩
  · rw [cell_of_heap h1, List.getElem?_toArray]; exact hv
  · cases e1

set_option maxRecDepth 100000 in
set_option maxHeartbeats 4000000 in
theorem peeled_any (w : World) : Calls Try.prog 48 #[] w fun e w' => e = .returned (.bool true) ∧ Fr w w' := by
  have E1 : Hid (symsOf 2 1 [5, 6] [0, 1] = [⟨0, [5]⟩, ⟨1, [6]⟩]) := by unfold Hid; decide +kernel
  have E2 : Hid (peelKn 2 1 [⟨0, [5]⟩] = ([some [5], none], 0)) := by unfold Hid; decide +kernel
  have E3 : Hid (peelKn 2 1 [⟨0, [5]⟩, ⟨1, [6]⟩] = ([some [5], some [6]], 0)) := by unfold Hid; decide +kernel
  have w2 : wfI 2 := by decide
  have w1 : wfI 1 := by decide
  go_enter Try.func48, Try.ntmps48
  go_wp2_with fail
  refine (symbols_any _ 2 1 w2 w1 _ _ _ [5, 6] ?_ (by omega) (by unfold maxLen; omega) _ _ _ [0, 1] ?_ (by omega) (by unfold maxLen; omega)).mono ?_
  · apply Sl.litBytes (hn := rfl)
    · (repeat' (with_reducible (first | (refine heap_new ?_; (first | (simp; done) | rfl); done) | refine heap_dn ?_ | refine heap_d ?_ | refine heap_old ?_)))
    · (simp [LT] <;> omega)
    · rfl
  · apply Sl.litInts (hn := rfl)
    · (repeat' (with_reducible (first | (refine heap_new ?_; (first | (simp; done) | rfl); done) | refine heap_dn ?_ | refine heap_d ?_ | refine heap_old ?_)))
    · (simp [LT] <;> omega)
    · intro x hx; simp at hx; rcases hx with rfl | rfl <;> decide
    · rfl
  rw [E1.out]
  rintro e v1 ⟨v, rfl, ho, hf⟩
  obtain ⟨A8, c8, rfl, ⟨hc8, hm8⟩, hs8⟩ := ho.toNw sSm
  have HP1 : Hid (v1.heap[w.heap.size]? = some (.cells #[.int .i64 2, .int .i64 1] 47 (0, 0))) := blk_go (by (repeat' (with_reducible (first | (refine heap_new ?_; (first | (simp; done) | rfl); done) | refine heap_dn ?_ | refine heap_d ?_ | refine heap_old ?_)))) hf
  have HF1 : Hid (Fr w v1) := Fr.trans (by (repeat' (first | exact Below.refl _ _ | refine below_drewN ?_ _ | refine Below.drew ?_ | refine frA ?_ _))) hf
  have HS8 : Hid (Sl 2 eSm v1 (LT v1.heap.size) A8 2 [⟨0, [5]⟩, ⟨1, [6]⟩]) := hs8.more sSm fun b hb => hb.2
  have HS1 : Hid (Sl 2 eSm v1 (LT v1.heap.size) A8 1 [⟨0, [5]⟩]) := HS8.out.pre (k := 1) (by omega)
  have hp1 := HP1.out
  (obtain ⟨x0, x1⟩ := box2_ hp1)
  have hc82 : 2 ≤ c8 := hc8
  have hq1 : (1 : Int) ≤ (c8 : Int) := by omega
  have hq2 : 1 ≤ c8 := by omega
  clear ho hf hs8 hp1 hc8
  go_upto_region 4 with fail
  go_cut [3, 4] (fun s3 s4 wx => ∃ g m, s3 = .slice (some ⟨g, 0, none⟩) 2 2 ∧ s4 = .int .i64 0 ∧ Hid (KnM 1 wx (fun y => y < wx.heap.size ∧ y ≠ g) g [some [5], none]) ∧ Hid (Fr v1 wx))
  case first =>
    have HB : Hid (v1.drew.heap[w.heap.size]? = some (.cells #[.int .i64 2, .int .i64 1] 47 (0, 0))) := HP1.out
    go_region_held3 (fun w' => w'.cell? ⟨w.heap.size, 0, none⟩ = some (.int .i64 2) ∧ w'.cell? ⟨w.heap.size, 1, none⟩ = some (.int .i64 1)) (first | exact box2_ HB.out | go_keep)
      (first
        | (go_at_call 49; (with_reducible refine (peelKn_eq v1.drew 2 1 w2 w1 _ _ _ [⟨0, [5]⟩] (HS1.out.go sSm (Below.refl _ _).drew) (by decide) _ E2.out).mono ?_); rintro e w5 ⟨g, m, rfl, hm5, _, hk5, hf5⟩; have HK5 := Lib.hid hk5; have HM5 := Lib.hid hm5; have HF5 : Hid (Fr v1 w5) := (Fr.trans (Below.refl _ _).drew hf5); have HB := Lib.hid (blk_go (heap_d HP1.out) hf5); clear hk5 hf5 hm5)
        | fail)
    all_goals
      obtain rfl : m = 2 := HM5.out.symm
      go_wp2_with fail
      go_meet
      exact ⟨g, 2, rfl, rfl, HK5.out, HF5.out⟩
  case rest =>
    obtain ⟨g1, m1, rfl, rfl, HK1, HF2⟩ := hcut
    obtain ⟨v2, rfl⟩ : ∃ v2, v2 = wc := ⟨_, rfl⟩
    have HP2 := Lib.hid (blk_go HP1.out HF2.out)
    have hp2 := HP2.out
    clear x0 x1
    (obtain ⟨x0, x1⟩ := box2_ hp2)
    clear hp2
    go_wp2_with fail
    refine (peelKn_eq _ 2 1 w2 w1 _ _ _ [⟨0, [5]⟩, ⟨1, [6]⟩] (HS8.out.go sSm HF2.out) (by decide) _ E3.out).mono ?_
    rintro e v3 ⟨g2, m2, rfl, hm2, _, hk2, hf⟩
    obtain rfl : m2 = 2 := hm2.symm
    have hk1 := HK1.out.fr hf fun y hy => hy.1
    obtain ⟨a1, d1, x5, _, hs1⟩ := hk1.some (i := 0) (l := [5]) rfl
    have x6 := hk1.none (i := 1) rfl
    obtain ⟨a2, d2, x7, _, hs2⟩ := hk2.some (i := 1) (l := [6]) rfl
    have HF3 : Hid (Fr w v3) := (HF1.out.trans HF2.out).trans hf
    have HS5 : Hid (Sl 1 eByte v3 (LT v3.heap.size) (some a1) 1 [5]) := hs1.more sByte fun y hy => Nat.lt_of_lt_of_le hy.1 hf.size
    have HS6 : Hid (Sl 1 eByte v3 (LT v3.heap.size) (some a2) 1 [6]) := hs2.more sByte fun y hy => hy.1
    have l1 := World.block_lt_of_cell? v3 _ x5
    have l2 := World.block_lt_of_cell? v3 _ x7
    clear hk1 hk2 hf hs1 hs2 x0 x1
    go_wp2_with fail
    refine (equalBlock_any _ _ Any _ _ _ _ _ _ [5] [5] (HS5.out.go sByte (by (repeat' (first | exact Below.refl _ _ | refine below_drewN ?_ _ | refine Below.drew ?_ | refine frA ?_ _)))) ?_ (by decide)).mono ?_
    · apply Sl.litBytes (hS := trivial) (hn := rfl)
      · (repeat' (with_reducible (first | (refine heap_new ?_; (first | (simp; done) | rfl); done) | refine heap_dn ?_ | refine heap_d ?_ | refine heap_old ?_)))
      · rfl
    rintro e v4 ⟨rfl, m4, rfl⟩
    go_wp2_with (first | (refine wpList_nil rfl (.tmp 51) 27 _ 5 rfl Try.underlying27 rfl true rfl ?_) | fail)
    refine (equalBlock_any _ _ Any _ _ _ _ _ _ [6] [6] (HS6.out.go sByte (by (repeat' (first | exact Below.refl _ _ | refine below_drewN ?_ _ | refine Below.drew ?_ | refine frA ?_ _)))) ?_ (by decide)).mono ?_
    · apply Sl.litBytes (hS := trivial) (hn := rfl)
      · (repeat' (with_reducible (first | (refine heap_new ?_; (first | (simp; done) | rfl); done) | refine heap_dn ?_ | refine heap_d ?_ | refine heap_old ?_)))
      · rfl
    rintro e v5 ⟨rfl, m5, rfl⟩
    go_wp2_with fail
    go_ret
    exact ⟨rfl, HF3.out.trans (by (repeat' (first | exact Below.refl _ _ | refine below_drewN ?_ _ | refine Below.drew ?_ | refine frA ?_ _)))⟩
end Go.Proofs.Ytnfjghldcopaaaa
namespace Go.Proofs.Ytnfjghldcopaaaa

/-- The numbers that are in, rising. -/
def selIdx (l : List Bool) : List Int := ((List.range l.length).filter fun k => l.getD k false).map fun k : Nat => (k : Int)
/-- The same numbers, in some order. -/
structure Sel (has : List Bool) (ls : List Int) : Prop where
  nd : ls.Nodup
  bd : ∀ x ∈ ls, ∃ k : Nat, x = k ∧ k < has.length
  iff : ∀ k : Nat, k < has.length → (has.getD k false = true ↔ (k : Int) ∈ ls)
theorem Sel.new (b : Nat) : Sel (noHas b) [] := ⟨List.nodup_nil, fun x hx => (List.not_mem_nil hx).elim, fun k hk => by
  have : (noHas b).getD k false = false := by
    have hk' : k < b := by simpa [noHas] using hk
    simp [noHas, List.getD_eq_getElem?_getD, List.getElem?_replicate, hk']
  rw [this]; simp⟩
theorem Sel.add {has : List Bool} {ls : List Int} {k : Nat} (h : Sel has ls) (hk : k < has.length) (hf : has.getD k false = false) : Sel (has.set k true) (ls ++ [(k : Int)]) := by
  have hn : (k : Int) ∉ ls := fun e => by
    have := (h.iff k hk).2 e
    rw [hf] at this; cases this
  refine ⟨?_, ?_, ?_⟩
  · rw [List.nodup_append]
    exact ⟨h.nd, by simp, fun a ha b hb e => by simp at hb; subst hb; subst e; exact hn ha⟩
  · intro x hx
    rcases List.mem_append.1 hx with h1 | h1
    · obtain ⟨j, e, hj⟩ := h.bd x h1
      exact ⟨j, e, by simpa using hj⟩
    · exact ⟨k, by simpa using h1, by simpa using hk⟩
  · intro j hj
    have hj' : j < has.length := by simpa using hj
    by_cases e : j = k
    · subst e
      simp [List.getD_eq_getElem?_getD, hj']
    · have h1 := h.iff j hj'
      rw [List.getD_eq_getElem?_getD, List.getElem?_set_ne (fun e' => e e'.symm), ← List.getD_eq_getElem?_getD, h1]
      simp only [List.mem_append, List.mem_singleton]
      constructor
      · exact .inl
      · rintro (h | h)
        · exact h
        · exact absurd (by omega) e
theorem Sel.idx (has : List Bool) : Sel has (selIdx has) := by
  refine ⟨?_, ?_, ?_⟩
  · unfold selIdx
    refine List.Pairwise.map (R := fun a b : Nat => a ≠ b) _ (fun a b h e => h (by omega)) ?_
    exact List.Pairwise.filter _ List.nodup_range
  · intro x hx
    obtain ⟨k, hk, rfl⟩ := List.mem_map.1 hx
    exact ⟨k, rfl, List.mem_range.1 (List.mem_filter.1 hk).1⟩
  · intro k hk
    unfold selIdx
    constructor
    · intro h
      exact List.mem_map.2 ⟨k, List.mem_filter.2 ⟨List.mem_range.2 hk, h⟩, rfl⟩
    · intro h
      obtain ⟨j, hj, e⟩ := List.mem_map.1 h
      obtain rfl : j = k := by omega
      exact (List.mem_filter.1 hj).2
theorem selIdx_sorted (has : List Bool) : (selIdx has).Pairwise fun x y => decide (x ≤ y) = true := by
  unfold selIdx
  refine List.Pairwise.map (R := fun a b : Nat => a < b) _ (fun a b (h : a < b) => by simp; omega) ?_
  exact List.pairwise_lt_range.filter _
theorem Sel.perm {has : List Bool} {l m : List Int} (h : Sel has l) (k : Sel has m) : l.Perm m := by
  rw [List.perm_ext_iff_of_nodup h.nd k.nd]
  intro a
  constructor
  · intro ha
    obtain ⟨j, rfl, hj⟩ := h.bd a ha
    exact (k.iff j hj).1 ((h.iff j hj).2 ha)
  · intro ha
    obtain ⟨j, rfl, hj⟩ := k.bd a ha
    exact (h.iff j hj).1 ((k.iff j hj).2 ha)
theorem Sel.sorted {has : List Bool} {ls : List Int} (h : Sel has ls) : ls.mergeSort (fun x y => decide (x ≤ y)) = selIdx has := by
  refine List.Perm.eq_of_pairwise (le := fun x y => decide (x ≤ y) = true) (fun a b _ _ h1 h2 => ?_) ?_ (selIdx_sorted has) ((List.mergeSort_perm _ _).trans (h.perm (Sel.idx has)))
  · simp at h1 h2; omega
  · exact List.pairwise_mergeSort (fun a b c h1 h2 => by simp at h1 h2 ⊢; omega) (fun a b => by simp; omega) ls
theorem selIdx_one {b id : Nat} (h : id < b) : selIdx ((noHas b).set id true) = [(id : Int)] := by
  have := (Sel.new b).add (k := id) (by simp [noHas]; exact h) (by simp [noHas, List.getD_eq_getElem?_getD, List.getElem?_replicate, h])
  have h2 := this.sorted
  rw [← h2]; simp
theorem Sel.length {has : List Bool} {ls : List Int} (h : Sel has ls) : ls.length ≤ has.length := by
  rw [(h.perm (Sel.idx has)).length_eq]
  unfold selIdx
  rw [List.length_map]
  exact Nat.le_trans (List.length_filter_le _ _) (by simp)
/-- What the reference picks. -/
def pickedR (id b : Int) : List Int × Int := if 0 ≤ id ∧ id ≤ 9999 ∧ 1 ≤ b ∧ b ≤ 24 then (selIdx (pickHas id.toNat b.toNat), 0) else ([], 3)
end Go.Proofs.Ytnfjghldcopaaaa
namespace Go.Proofs.Ytnfjghldcopaaaa
open Go.RowKit
attribute [local irreducible] wpList

theorem infoInt : (Try.prog.info? 3).map (fun i => (i.zero, i.size, i.bytes)) = some (some (.int .i64 0), 1, 8) := by kernel_rfl

theorem own_ints {w : World} {base : Nat} {e : TypeId} {v : Value} {ls : List Int} (h : Own 1 eInt w base e v ls) (hn : 0 < ls.length) :
    ∃ (g cap : Nat) (cur : Array Value), v = .slice (some ⟨g, 0, none⟩) ls.length cap ∧ base ≤ g ∧ w.heap[g]? = some (.cells cur e (0, 0)) ∧ ls.length ≤ cap ∧ cap ≤ maxLen ∧ cur.size = cap * 1 ∧ cur.toList.take ls.length = ls.map (Value.int .i64) ∧ ∀ x ∈ ls, wfI x := by
  obtain ⟨cs, ho, hr⟩ := h
  have hlen := ho.1
  rcases ho.2 with ⟨rfl, h0⟩ | ⟨g, cap, cur, rfl, hbg, hg, hnc, hcm, hcs, htake⟩
  · omega
  · refine ⟨g, cap, cur, rfl, hbg, hg, hnc, hcm, hcs, ?_, fun x hx => ?_⟩
    · rw [Nat.mul_one] at htake hlen
      rw [htake]
      apply List.ext_getElem (by simp [hlen])
      intro i h1 h2
      have := (hr i ls[i] (by rw [List.getElem?_eq_getElem])).1
      simp only [Nat.mul_one, Nat.add_zero] at this
      rw [List.getElem?_eq_getElem h1] at this
      simpa using this
    · obtain ⟨i, hi, rfl⟩ := List.mem_iff_getElem.1 hx
      exact (hr i ls[i] (by rw [List.getElem?_eq_getElem])).2
theorem sl_ints {w : World} {base g cap : Nat} {e : TypeId} {ts : List Int} (h : w.ownsRow base e 1 (.slice (some ⟨g, 0, none⟩) ts.length cap) ts.length (ts.map (Value.int .i64))) (hw : ∀ x ∈ ts, wfI x) : Sl 1 eInt w (LT w.heap.size) (some ⟨g, 0, none⟩) ts.length ts := by
  have ho : Own 1 eInt w base e (.slice (some ⟨g, 0, none⟩) ts.length cap) ts := ⟨_, h, fun i x hx => ⟨by simp [hx], hw x (List.mem_of_getElem? hx)⟩⟩
  obtain ⟨A, c, e1, _, hs⟩ := ho.slC sInt (by decide)
  injection e1 with e1
  subst e1
  exact hs
theorem selIdx_wf {l : List Bool} (h : l.length ≤ 24) : ∀ x ∈ selIdx l, wfI x := by
  intro x hx
  obtain ⟨k, rfl, hk⟩ := (Sel.idx l).bd x hx
  exact wfI.mk (by omega)
set_option maxRecDepth 100000 in
set_option maxHeartbeats 1000000 in
theorem refPicked_more (w : World) (id b : Nat) (h1 : b ≤ id) (h2 : b ≤ 24) (h3 : 1 ≤ b) (h4 : id ≤ 9999) :
    Calls Try.prog 30 #[.int .i64 id, .int .i64 b] w fun e w' => ∃ A n c, e = .returned (.tuple #[.slice A n c, .int .i64 0]) ∧ (n ≤ c ∧ c ≤ maxLen) ∧ Sl 1 eInt w' (LT w'.heap.size) A n (selIdx (pickHas id b)) ∧ Fr w w' := by
  have hlt0 : decide ((id : Int) < (b : Int)) = false := by simp; omega
  have hlt1 : decide (id < b) = false := by simp; omega
  have r1 : inR id 0 9999 = true := inR_t (by omega)
  have r2 : inR b 1 24 = true := inR_t (by omega)
  obtain ⟨x, hx⟩ : ∃ x, x = nxt id := ⟨_, rfl⟩
  have hxi : ((id : Int) * 1109 + 12345) % 65536 = (x : Int) := by rw [hx]; unfold nxt; omega
  have hxl : x < 65536 := by rw [hx]; exact nxt_lt id
  have hE : Hid (pickHas id b = pickLoop b fuel x (degree x b) (noHas b)) := by rw [Hid, hx]; unfold pickHas; rw [if_neg (by omega)]
  have hd := degree_bd x b h3
  have hen : Hid (Enough b fuel x (degree x b) (noHas b)) := enough_new h2 (by simp [noHas]) (by rw [cnt_noHas]; omega) (by unfold fuel; omega)
  have HX := Lib.hid hxi
  clear hx hxi
  go_enter Try.func30, Try.ntmps30
  go_upto_block 0 with (go_at_call 61; refine (in_any _ _ _ _).mono ?_; rintro e w' ⟨rfl, rfl⟩)
  rw [HX.out]
  obtain ⟨W1, hW1⟩ : ∃ W1, W1 = w.alloc (.cells #[.int .i64 8192, .int .i64 40960, .int .i64 51882, .int .i64 57344, .int .i64 60621] 3) := ⟨_, rfl⟩
  have HF1 : Hid (Fr w W1) := by rw [hW1]; exact frAlloc _ _
  have hb1 : W1.heap[w.heap.size]? = some (.cells #[.int .i64 8192, .int .i64 40960, .int .i64 51882, .int .i64 57344, .int .i64 60621] 3 (0, 0)) := by rw [hW1]; exact heap_new rfl
  have hc0 : W1.cell? ⟨w.heap.size, 0, none⟩ = some (.int .i64 8192) := cell_of_heap hb1
  have hc1 : W1.cell? ⟨w.heap.size, 1, none⟩ = some (.int .i64 40960) := cell_of_heap hb1
  have hc2 : W1.cell? ⟨w.heap.size, 2, none⟩ = some (.int .i64 51882) := cell_of_heap hb1
  have hc3 : W1.cell? ⟨w.heap.size, 3, none⟩ = some (.int .i64 57344) := cell_of_heap hb1
  have hc4 : W1.cell? ⟨w.heap.size, 4, none⟩ = some (.int .i64 60621) := cell_of_heap hb1
  rw [← hW1]
  clear hW1 hb1
  go_cut [7] (fun s7 wx => s7 = .int .i64 (degree x b : Nat) ∧ W1 = wx)
  case first =>
    go_wp2_with fail
    go_loop [7, 34] (fun m i => ∃ k : Nat, k ≤ 5 ∧ i = .int .i64 k ∧ m = .int .i64 (max 1 ((b : Int) / 2)) ∧ (if k = 0 then 0 else if k = 1 then 8192 else if k = 2 then 40960 else if k = 3 then 51882 else if k = 4 then 57344 else 60621) ≤ (x : Int)) (fun _ i => 5 - (intOf i).toNat)
    case atStart => exact ⟨0, Nat.zero_le _, rfl, rfl, by simp⟩
    case round =>
      obtain ⟨k, hk, rfl, rfl, hx2⟩ := hrel
      rcases (show k = 0 ∨ k = 1 ∨ k = 2 ∨ k = 3 ∨ k = 4 ∨ k = 5 from by omega) with rfl | rfl | rfl | rfl | rfl | rfl
      · have hx3 : (0 : Int) ≤ x := by omega
        clear hx2
        by_cases hlt : (x : Int) < 8192
        · have E : Hid ((degree x b : Int) = min (1 : Int) b) := by
            unfold Hid degree
            repeat' (first | rw [if_pos (by omega)] | rw [if_neg (by omega)])
            omega
          clear hx3
          have hb1 : decide ((x : Int) < 8192) = true := decide_eq_true hlt
          clear hlt
          by_cases hbk : (1 : Int) ≤ b
          all_goals
            go_wp2_with fail
            go_meet
            exact ⟨by rw [E.out] <;> congr 1 <;> omega, rfl⟩
        · clear hx3
          have hb1 : decide ((x : Int) < 8192) = false := decide_eq_false hlt
          have HLT := Lib.hid hlt
          clear hlt
          go_wp2_with fail
          go_round
          case rel => exact ⟨_, by decide, rfl, rfl, by have := HLT.out; simp; omega⟩
          case measure => simp [intOf]
      · have hx3 : (8192 : Int) ≤ x := by omega
        clear hx2
        by_cases hlt : (x : Int) < 40960
        · have E : Hid ((degree x b : Int) = min (2 : Int) b) := by
            unfold Hid degree
            repeat' (first | rw [if_pos (by omega)] | rw [if_neg (by omega)])
            omega
          clear hx3
          have hb1 : decide ((x : Int) < 40960) = true := decide_eq_true hlt
          clear hlt
          by_cases hbk : (2 : Int) ≤ b
          all_goals
            go_wp2_with fail
            go_meet
            exact ⟨by rw [E.out] <;> congr 1 <;> omega, rfl⟩
        · clear hx3
          have hb1 : decide ((x : Int) < 40960) = false := decide_eq_false hlt
          have HLT := Lib.hid hlt
          clear hlt
          go_wp2_with fail
          go_round
          case rel => exact ⟨_, by decide, rfl, rfl, by have := HLT.out; simp; omega⟩
          case measure => simp [intOf]
      · have hx3 : (40960 : Int) ≤ x := by omega
        clear hx2
        by_cases hlt : (x : Int) < 51882
        · have E : Hid ((degree x b : Int) = min (3 : Int) b) := by
            unfold Hid degree
            repeat' (first | rw [if_pos (by omega)] | rw [if_neg (by omega)])
            omega
          clear hx3
          have hb1 : decide ((x : Int) < 51882) = true := decide_eq_true hlt
          clear hlt
          by_cases hbk : (3 : Int) ≤ b
          all_goals
            go_wp2_with fail
            go_meet
            exact ⟨by rw [E.out] <;> congr 1 <;> omega, rfl⟩
        · clear hx3
          have hb1 : decide ((x : Int) < 51882) = false := decide_eq_false hlt
          have HLT := Lib.hid hlt
          clear hlt
          go_wp2_with fail
          go_round
          case rel => exact ⟨_, by decide, rfl, rfl, by have := HLT.out; simp; omega⟩
          case measure => simp [intOf]
      · have hx3 : (51882 : Int) ≤ x := by omega
        clear hx2
        by_cases hlt : (x : Int) < 57344
        · have E : Hid ((degree x b : Int) = min (4 : Int) b) := by
            unfold Hid degree
            repeat' (first | rw [if_pos (by omega)] | rw [if_neg (by omega)])
            omega
          clear hx3
          have hb1 : decide ((x : Int) < 57344) = true := decide_eq_true hlt
          clear hlt
          by_cases hbk : (4 : Int) ≤ b
          all_goals
            go_wp2_with fail
            go_meet
            exact ⟨by rw [E.out] <;> congr 1 <;> omega, rfl⟩
        · clear hx3
          have hb1 : decide ((x : Int) < 57344) = false := decide_eq_false hlt
          have HLT := Lib.hid hlt
          clear hlt
          go_wp2_with fail
          go_round
          case rel => exact ⟨_, by decide, rfl, rfl, by have := HLT.out; simp; omega⟩
          case measure => simp [intOf]
      · have hx3 : (57344 : Int) ≤ x := by omega
        clear hx2
        by_cases hlt : (x : Int) < 60621
        · have E : Hid ((degree x b : Int) = min (5 : Int) b) := by
            unfold Hid degree
            repeat' (first | rw [if_pos (by omega)] | rw [if_neg (by omega)])
            omega
          clear hx3
          have hb1 : decide ((x : Int) < 60621) = true := decide_eq_true hlt
          clear hlt
          by_cases hbk : (5 : Int) ≤ b
          all_goals
            go_wp2_with fail
            go_meet
            exact ⟨by rw [E.out] <;> congr 1 <;> omega, rfl⟩
        · clear hx3
          have hb1 : decide ((x : Int) < 60621) = false := decide_eq_false hlt
          have HLT := Lib.hid hlt
          clear hlt
          go_wp2_with fail
          go_round
          case rel => exact ⟨_, by decide, rfl, rfl, by have := HLT.out; simp; omega⟩
          case measure => simp [intOf]
      · have hx3 : (60621 : Int) ≤ x := by simp at hx2 ⊢; omega
        clear hx2
        have E : Hid ((degree x b : Int) = max 1 ((b : Int) / 2)) := by
          unfold Hid degree
          repeat' (rw [if_neg (by omega)])
          omega
        clear hx3
        go_wp2_with fail
        all_goals
          go_meet
          exact ⟨by rw [E.out], rfl⟩
  case rest =>
    obtain ⟨rfl, rfl⟩ := hcut
    obtain ⟨D, hD⟩ : ∃ D, D = degree x b := ⟨_, rfl⟩
    rw [← hD] at hd hen hE ⊢
    obtain ⟨hd1, hd2⟩ := hd
    clear hc0 hc1 hc2 hc3 hc4 hD HX
    go_wp2_with fail
    go_loopg [6, 10] fuel (fun g s6 s10 wr => ∃ (xx mm : Nat) (has : List Bool) (ls : List Int), s6 = .int .i64 xx ∧ mm + ls.length = D ∧ Hid (xx < 65536) ∧ Hid (Enough b g xx mm has) ∧ Hid (Sel has ls) ∧ Hid (Own 1 eInt wr w.heap.size 3 s10 ls) ∧ Hid (pickHas id b = pickLoop b g xx mm has) ∧ Hid (Below w.heap.size w wr))
    case atStart => exact ⟨x, D, noHas b, [], rfl, by simp, hxl, hen, Sel.new b, Own.nil, hE, HF1.out⟩
    case round =>
      obtain ⟨xx, mm, has, ls, rfl, hml, HX, HE, HS, HO, HP, HB⟩ := hrel
      have hlen : has.length = b := HE.out.len
      by_cases h0 : mm = 0
      · have HR : Hid (has = pickHas id b) := by
          rw [Hid, HP.out, h0]
          cases gk with
          | zero => rfl
          | succ n => rw [pickLoop, if_pos rfl]
        obtain ⟨g, cap, cur, rfl, hbg, hg, hnc, hcm, hcs, htk, hwf⟩ := own_ints HO.out (by omega)
        have hll : ls.length < 4611686018427387904 := by omega
        have HH := Lib.hid (holds_of_blockI hg htk)
        have hgl : g < wr.heap.size := (Array.getElem?_eq_some_iff.1 hg).1
        have hlt2 : decide ((ls.length : Int) < (D : Int)) = false := by simp; omega
        have hlt3 : decide (ls.length < D) = false := by simp; omega
        have HST := Lib.hid HS.out.sorted
        have HPL := Lib.hid (HS.out.perm (Sel.idx has)).length_eq
        have HWF : Hid (∀ x ∈ selIdx has, wfI x) := selIdx_wf (by omega)
        clear HP HE h0 htk hml
        (have Hg := Lib.hid hg; clear hg; have Hcs := Lib.hid hcs; clear hcs; have Hwf := Lib.hid hwf; clear hwf)
        go_wp2_with fail
        (with_reducible refine (Try.slices_Sort_int g 0 cap ls wr HH.out hgl hll).mono ?_)
        rintro e w2 ⟨rfl, n2, os2, rfl⟩
        rw [HST.out]
        have HOW := Lib.hid (ownsRow_sortedI (n := n2) (os := os2) HPL.out.symm hbg Hg.out hnc hcm Hcs.out)
        have HF2 : Hid (Fr w (Go.Sort.grow (Go.Sort.putRow (Value.int .i64) (Go.Sort.ahead wr n2) g 0 (selIdx has).toArray) os2)) := HB.out.grown (grownBy_sortedI _) HB.out.size (fun k hk => by injection hk with hk; omega)
        obtain ⟨W3, hW3⟩ : ∃ W3, W3 = Go.Sort.grow (Go.Sort.putRow (Value.int .i64) (Go.Sort.ahead wr n2) g 0 (selIdx has).toArray) os2 := ⟨_, rfl⟩
        rw [← hW3] at HOW HF2 ⊢
        clear hW3
        go_wp2_with fail
        go_ret2
        rw [← HR.out]
        rw [HPL.out] at hnc HOW ⊢
        exact ⟨_, _, _, rfl, ⟨hnc, hcm⟩, sl_ints HOW.out HWF.out, HF2.out⟩
      · obtain ⟨hg, hs1, hs2⟩ := enough_step h2 (by omega) HE.out
        have hm0 : decide ((ls.length : Int) < (D : Int)) = true := by simp; omega
        have hm1 : decide (ls.length < D) = true := by simp; omega
        obtain ⟨x', hx'⟩ : ∃ x', x' = nxt xx := ⟨_, rfl⟩
        have HXX : Hid (((xx : Int) * 1109 + 12345) % 65536 = (x' : Int)) := by rw [Hid, hx']; unfold nxt; omega
        obtain ⟨k, hk⟩ : ∃ k, k = x' / 7 % b := ⟨_, rfl⟩
        have hkb : k < b := by rw [hk]; exact Nat.mod_lt _ (by omega)
        have hx1 : Hid (x' < 65536) := by rw [hx']; exact nxt_lt xx
        have hx0 : (xx : Int) < 65536 := by have := HX.out; omega
        have hx2 : (x' : Int) < 65536 := by have := hx1.out; omega
        rw [← hx', ← hk] at hs1 hs2
        have HP' : Hid (pickHas id b = if has.getD k false then pickLoop b (gk - 1) x' mm has else pickLoop b (gk - 1) x' (mm - 1) (has.set k true)) := by
          rw [Hid, HP.out]
          conv => lhs; rw [show gk = (gk - 1) + 1 from by omega, pickLoop, if_neg h0, ← hx', ← hk]
        have hw7 : wrap64 ((x' : Int) / 7) = (x' : Int) / 7 := IntWalk.wrap64_in _ (by have := hx1.out; omega)
        have hke : ((x' : Int) / 7).tmod (b : Int) = (k : Int) := by rw [Int.tmod_eq_emod_of_nonneg (by omega), hk]; simp
        have hke2 : ((x' : Int) / 7) % (b : Int) = (k : Int) := by rw [hk]; simp
        have hb0 : ((b : Int) == 0) = false := by rw [beq_eq_false_iff_ne]; omega
        have hx7 : 0 ≤ (x' : Int) / 7 := by omega
        obtain ⟨A1, c1, rfl, ⟨hc1, hm2⟩, hsl⟩ := HO.out.slC sInt (by decide)
        have HSL := Lib.hid hsl
        have hlm : ls.length ≤ maxLen := by unfold maxLen; omega
        have hdec : Hid (decide ((k : Int) ∈ ls) = has.getD k false) := by
          have := HS.out.iff k (by omega)
          rw [Hid]
          cases hgk : has.getD k false
          · rw [hgk] at this; simp; intro e; have := this.2 e; cases this
          · rw [hgk] at this; simpa using this
        have HKE := Lib.hid (And.intro hke hke2)
        have HW7 := Lib.hid hw7
        clear HP HE hx' hk hsl hke hke2 hw7
        go_upto_region 16 with fail
        rw [HXX.out]
        have hke := HKE.out.1
        have hke2 := HKE.out.2
        have hw7 := HW7.out
        go_upto_region 17 with fail
        clear hke hke2 hw7
        go_wp2_with fail
        (with_reducible refine (containsInt_any _ _ _ _ _ ls (k : Int) HSL.out hlm).mono ?_)
        rw [hdec.out]
        rintro e w2 ⟨rfl, rfl⟩
        by_cases hh : has.getD k false = true
        · have HE' := Lib.hid (hs1 hh)
          have HR : Hid (pickHas id b = pickLoop b (gk - 1) x' mm has) := by rw [Hid, HP'.out, if_pos hh]
          rw [hh]
          clear hs1 hs2 hh HP' hdec
          go_wp2_with fail
          go_roundg (gk - 1)
          case measure => omega
          case rel => exact ⟨x', mm, has, ls, rfl, hml, hx1, HE', HS, HO, HR, HB⟩
        · have hh' : has.getD k false = false := by simpa using hh
          have HE' := Lib.hid (hs2 hh')
          have HR : Hid (pickHas id b = pickLoop b (gk - 1) x' (mm - 1) (has.set k true)) := by rw [Hid, HP'.out, if_neg hh]
          have HS' : Hid (Sel (has.set k true) (ls ++ [(k : Int)])) := HS.out.add (by omega) hh'
          have hwk : wfI (k : Int) := wfI.mk (by omega)
          have hml' : mm - 1 + (ls ++ [(k : Int)]).length = D := by simp; omega
          have hll : ls.length ≤ 24 := by omega
          rw [hh']
          clear hs1 hs2 hh HP' hdec hh'
          (have Hml' := Lib.hid hml'; clear hml')
          go_wp2_with (at_builtin; refine wpList_apps _ rfl _ _ 48 rfl w.heap.size 3 (.int .i64 0) 1 8 Try.underlying48 infoInt rfl (by decide) sInt _ ls rfl (HO.out.fr sInt (frAlloc _ _)) ⟨wr.heap.size, 0, none⟩ 1 1 [.int .i64 (k : Int)] rfl rfl (cell_one_new _ _ _) ?c2 [(k : Int)] rfl ?c3 ?c4 ?c5 ?c6 ?_)
          case c2 => intro u hu; simp at hu; subst hu; rfl
          case c3 =>
            intro i y hy
            obtain rfl : i = 0 := by have := (List.getElem?_eq_some_iff.1 hy).1; simp at this; omega
            obtain rfl : (k : Int) = y := by simpa using hy
            exact ⟨rfl, hwk⟩
          case c4 => unfold maxLen; omega
          case c5 => unfold lim; omega
          case c6 => have := HB.out.size; simp; omega
          · intro v' w3 hown' hg' hge
            have HO' := Lib.hid hown'
            have HB' : Hid (Fr w w3) := (frA HB.out _).grown hg' (by have := HB.out.size; simp; omega) hge
            clear hown' hg' hge
            go_wp2_with fail
            go_roundg (gk - 1)
            case measure => omega
            case rel => exact ⟨x', mm - 1, has.set k true, ls ++ [(k : Int)], rfl, Hml'.out, hx1, HE', HS', HO', HR, HB'⟩
end Go.Proofs.Ytnfjghldcopaaaa
namespace Go.Proofs.Ytnfjghldcopaaaa
open Go.RowKit
attribute [local irreducible] wpList

set_option maxHeartbeats 400000 in
theorem indexFuncInt_any (w : World) (f : FuncId) (cp : Value) (hcf : ∀ (args : Array Value) (W : World), (callFunc f args).run Try.prog W = .ok (.enter f args) W) (p : Int → Bool) (xs : List Int) (hfn : ∀ x ∈ xs, Calls Try.prog f #[.int .i64 x, cp] w fun e w' => e = .returned (.bool (p x)) ∧ w = w') (S : Nat → Prop) (A : Option Addr) (n c : Nat) (h : Sl 1 eInt w S A n xs) (hm : n ≤ maxLen) :
    Calls Try.prog 96 #[.slice A n c, .func (.func f) #[] #[cp]] w fun e w' => e = .returned (.int .i64 (idxF true (xs.map p))) ∧ w = w' := by
  unfold maxLen at hm
  have H := Lib.hid h
  have HFN := Lib.hid hfn
  clear h hfn
  go_enter Try.func96, Try.ntmps96
  go_wp2_with fail
  go_loop [8] (fun i => ∃ k : Nat, k ≤ n ∧ i = .int .i64 k ∧ Hid (idxF true (xs.map p) = idxAux true ((xs.map p).drop k) k)) (fun i => n - (intOf i).toNat)
  case atStart => exact ⟨0, Nat.zero_le _, rfl, rfl⟩
  case round =>
    obtain ⟨k, hk, rfl, HS⟩ := hrel
    by_cases hlt : k < n
    · obtain ⟨ad, rfl, hE⟩ := H.out.els (by omega)
      obtain ⟨b, hb, hc, hwb⟩ := hE.int hlt
      have hpb : (xs.map p)[k]? = some (p b) := by rw [List.getElem?_map, hb]; rfl
      have HS' : Hid (idxF true (xs.map p) = if true = p b then (k : Int) else idxAux true ((xs.map p).drop (k + 1)) (k + 1)) := by rw [Hid, HS.out, idxAux_drop hpb]
      obtain ⟨q, hq⟩ : ∃ q, q = p b := ⟨_, rfl⟩
      have HC := Lib.hid (HFN.out b (List.mem_of_getElem? hb))
      rw [← hq] at HS' HC
      clear HS hb hE hpb hq hwb
      go_wp2_with fail
      (with_reducible refine (HC.out).mono ?_)
      rintro e w' ⟨rfl, rfl⟩
      cases q with
      | true =>
        have HR : Hid (idxF true (xs.map p) = (k : Int)) := by rw [Hid, HS'.out, if_pos rfl]
        clear HS'
        go_wp2_with fail
        go_ret
        exact ⟨retI HR.out.symm, rfl⟩
      | false =>
        have HR : Hid (idxF true (xs.map p) = idxAux true ((xs.map p).drop (k + 1)) (k + 1)) := by rw [Hid, HS'.out, if_neg (by simp)]
        clear HS'
        go_wp2_with fail
        go_round
        case rel => exact ⟨k + 1, by omega, by go_num, HR⟩
        case measure => simp [intOf]; omega
    · have HF : Hid (idxF true (xs.map p) = -1) := by
        have h1 := H.out.1
        rw [Hid, HS.out, List.drop_eq_nil_of_le (by simp; omega)]; rfl
      go_wp2_with fail
      go_ret
      exact ⟨retI HF.out.symm, rfl⟩

/-- What is not deleted. -/
def keepF (p : Int → Bool) (xs : List Int) : List Int := xs.filter fun x => !p x
theorem keepF_all {p : Int → Bool} {xs : List Int} (h : idxF true (xs.map p) = -1) : keepF p xs = xs := by
  rcases idxF_spec true (xs.map p) with h1 | ⟨j, h1, _⟩
  · refine List.filter_eq_self.2 fun x hx => ?_
    have := h1.2
    simp only [List.mem_map, not_exists, not_and, Bool.not_eq_true] at this
    simp [this x hx]
  · omega
theorem keepF_start {p : Int → Bool} {xs : List Int} {j : Nat} (h : idxF true (xs.map p) = (j : Int)) : j < xs.length ∧ keepF p (xs.take (j + 1)) = xs.take j := by
  rcases idxF_spec true (xs.map p) with h1 | ⟨i, h1, h2, h3⟩
  · omega
  · obtain rfl : i = j := by omega
    have hi := (List.getElem?_eq_some_iff.1 h2).1
    rw [List.length_map] at hi
    refine ⟨hi, ?_⟩
    rw [take_snoc' (List.getElem?_eq_getElem hi)]
    unfold keepF
    rw [List.filter_append]
    have e1 : List.filter (fun x => !p x) (xs.take i) = xs.take i := by
      refine List.filter_eq_self.2 fun x hx => ?_
      obtain ⟨k, hk, rfl⟩ := List.mem_iff_getElem.1 hx
      simp only [List.length_take] at hk
      have := h3 k (by omega)
      rw [List.getElem?_map, List.getElem?_eq_getElem (by omega)] at this
      simp at this
      simp [this]
    have e2 : p xs[i] = true := by
      rw [List.getElem?_map, List.getElem?_eq_getElem hi] at h2
      simpa using h2
    rw [e1]
    simp [e2]
theorem keepF_snoc {p : Int → Bool} {xs : List Int} {j : Nat} {x : Int} (h : xs[j]? = some x) : keepF p (xs.take (j + 1)) = keepF p (xs.take j) ++ if p x then [] else [x] := by
  rw [take_snoc' h]
  unfold keepF
  rw [List.filter_append]
  cases hx : p x <;> simp [hx]

set_option maxRecDepth 100000 in
set_option maxHeartbeats 1000000 in
theorem deleteFuncInt_row (w : World) (f : FuncId) (cp : Value) (hcf : ∀ (args : Array Value) (W : World), (callFunc f args).run Try.prog W = .ok (.enter f args) W) (p : Int → Bool) (g n cap : Nat) (xs : List Int) (rest : List Value) (hfn : ∀ (W : World), Chg (fun y => y = g) w W → ∀ x ∈ xs, Calls Try.prog f #[.int .i64 x, cp] W fun e w' => e = .returned (.bool (p x)) ∧ W = w')
    (hg : w.heap[g]? = some (.cells (xs.map (Value.int .i64) ++ rest).toArray 3 (0, 0))) (hl : xs.length = n) (hw : ∀ x ∈ xs, wfI x) (hr : n + rest.length = cap) (hcm : cap ≤ maxLen) :
    Calls Try.prog 83 #[.slice (some ⟨g, 0, none⟩) n cap, .func (.func f) #[] #[cp]] w fun e w' => ∃ rest' : List Value, e = .returned (.slice (some ⟨g, 0, none⟩) (keepF p xs).length cap) ∧ (keepF p xs).length + rest'.length = cap ∧ w'.heap[g]? = some (.cells ((keepF p xs).map (Value.int .i64) ++ rest').toArray 3 (0, 0)) ∧ Chg (fun y => y = g) w w' := by
  have hgl := (Array.getElem?_eq_some_iff.1 hg).1
  have hcm' := hcm
  unfold maxLen at hcm'
  have hS : Sl 1 eInt w (fun y => y = g) (some ⟨g, 0, none⟩) n xs := Sl.lit hg rfl hl fun i x hx => by
    have hi := (List.getElem?_eq_some_iff.1 hx).1
    refine ⟨?_, hw x (List.mem_of_getElem? hx)⟩
    simp only [Nat.mul_one, Nat.add_zero, List.getElem?_toArray]
    rw [List.getElem?_append_left (by simpa using hi), List.getElem?_map, hx]; rfl
  have hnm : n ≤ maxLen := by omega
  have HI := Lib.hid (indexFuncInt_any w f cp hcf p xs (hfn w (Chg.refl _ _)) _ _ n cap hS hnm)
  obtain ⟨ix, hix⟩ : ∃ ix, ix = idxF true (xs.map p) := ⟨_, rfl⟩
  have hbd := idxF_bd true (xs.map p)
  rw [List.length_map, hl] at hbd
  rw [← hix] at HI hbd
  by_cases h0 : ix = -1
  · have HK : Hid (keepF p xs = xs) := keepF_all (by rw [← hix]; exact h0)
    have hb : (ix == -1) = true := by simp [h0]
    (have Hg := Lib.hid hg; clear hg; have Hfn := Lib.hid hfn; clear hfn; have Hw := Lib.hid hw; clear hw; have HS := Lib.hid hS; clear hS; have Hl := Lib.hid hl; clear hl)
    clear hix h0
    go_enter Try.func83, Try.ntmps83
    go_wp2_with fail
    (with_reducible refine (HI.out).mono ?_)
    rintro e w' ⟨rfl, rfl⟩
    go_wp2_with fail
    go_ret
    refine ⟨rest, ?_, ?_, ?_, Chg.refl _ _⟩
    · rw [HK.out, Hl.out]; rfl
    · rw [HK.out, Hl.out]; exact hr
    · rw [HK.out]; exact Hg.out
  · obtain ⟨j0, rfl⟩ := Int.eq_ofNat_of_zero_le (show 0 ≤ ix by omega)
    obtain ⟨hj0, hst⟩ := keepF_start hix.symm
    have hb : ((j0 : Int) == -1) = false := by rw [beq_eq_false_iff_ne]; omega
    (have Hg := Lib.hid hg; clear hg; have Hfn := Lib.hid hfn; clear hfn; have Hw := Lib.hid hw; clear hw; have HS := Lib.hid hS; clear hS; have Hl := Lib.hid hl; clear hl; have Hst := Lib.hid hst; clear hst)
    clear hix h0
    go_enter Try.func83, Try.ntmps83
    go_wp2_with fail
    (with_reducible refine (HI.out).mono ?_)
    rintro e w' ⟨rfl, rfl⟩
    clear HI
    go_wp2_with fail
    go_loopw [5, 6] (fun s5 s6 wr => ∃ (i j : Nat) (cs : List Int), i < j ∧ j ≤ n ∧ s5 = .int .i64 i ∧ s6 = .int .i64 j ∧ cs.length = n ∧ Hid (cs.take i = keepF p (xs.take j)) ∧ Hid (cs.drop j = xs.drop j) ∧ Hid (wr.heap[g]? = some (.cells (cs.map (Value.int .i64) ++ rest).toArray 3 (0, 0))) ∧ Hid (Chg (fun y => y = g) w wr)) (fun _ j _ => n - (intOf j).toNat)
    case atStart => exact ⟨j0, j0 + 1, xs, by omega, by have := Hl.out; omega, rfl, by go_num, Hl.out, Hst.out.symm, rfl, Hg.out, Chg.refl _ _⟩
    case round =>
      obtain ⟨i, j, cs, hij, hjn, rfl, rfl, hcl, HT, HD, HG, HC⟩ := hrel
      by_cases hlt : j < n
      · obtain ⟨x, hx⟩ : ∃ x, xs[j]? = some x := ⟨_, List.getElem?_eq_getElem (by have := Hl.out; omega)⟩
        have hcx : cs[j]? = some x := by
          have := congrArg (·[0]?) HD.out
          simpa [List.getElem?_drop, hx] using this
        have hc : wr.cell? ⟨g, j, none⟩ = some (.int .i64 x) := by
          rw [cell_of_heap HG.out, List.getElem?_toArray, List.getElem?_append_left (by simp; omega), List.getElem?_map, hcx]; rfl
        have hcap : j < cap := by omega
        have hf : wr.frozen? ⟨g, i, none⟩ = false := blk_free HG.out
        have hci : ∃ u, wr.cell? ⟨g, i, none⟩ = some u := by
          rw [cell_of_heap HG.out, List.getElem?_toArray, List.getElem?_append_left (by simp; omega), List.getElem?_map, List.getElem?_eq_getElem (by omega)]; exact ⟨_, rfl⟩
        obtain ⟨u, hci⟩ := hci
        have HFN2 := Lib.hid (Hfn.out wr HC.out x (List.mem_of_getElem? hx))
        have HSN := Lib.hid (keepF_snoc (p := p) hx)
        obtain ⟨q, hq⟩ : ∃ q, q = p x := ⟨_, rfl⟩
        rw [← hq] at HFN2 HSN
        have HX := Lib.hid hx
        have HCX := Lib.hid hcx
        clear hx hcx hq
        go_wp2_with fail
        (with_reducible refine (HFN2.out).mono ?_)
        rintro e w' ⟨rfl, rfl⟩
        have HD' : Hid (cs.drop (j + 1) = xs.drop (j + 1)) := by
          have := congrArg (List.drop 1) HD.out
          rw [Hid]
          simpa [List.drop_drop, Nat.add_comm] using this
        cases q with
        | true =>
          go_wp2_with fail
          go_roundw
          case rel => exact ⟨i, j + 1, cs, by omega, by omega, rfl, by go_num, hcl, by rw [Hid, HT.out, HSN.out]; simp, HD', HG, HC⟩
          case measure => simp [intOf]; omega
        | false =>
          have HT' : Hid ((cs.set i x).take (i + 1) = keepF p (xs.take (j + 1))) := by
            have e : keepF p (xs.take (j + 1)) = keepF p (xs.take j) ++ [x] := HSN.out.trans (by simp)
            rw [Hid, e, ← HT.out, take_snoc' (x := x) (by rw [List.getElem?_set_self (by omega)]), List.take_set_of_le (Nat.le_refl _)]
          have HD2 : Hid ((cs.set i x).drop (j + 1) = xs.drop (j + 1)) := by rw [Hid, List.drop_set_of_lt (by omega)]; exact HD'.out
          have HG' : Hid ((wr.setCell ⟨g, i, none⟩ (.int .i64 x)).heap[g]? = some (.cells ((cs.set i x).map (Value.int .i64) ++ rest).toArray 3 (0, 0))) := by
            have := HG.out
            rw [Hid]
            simp [World.setCell, Array.getElem?_modify, this]
            rw [List.set_append_left _ _ (by simp; omega)]
          have HC' : Hid (Chg (fun y => y = g) w (wr.setCell ⟨g, i, none⟩ (.int .i64 x))) := Chg.set (S := fun y => y = g) (p := ⟨g, i, none⟩) HC.out rfl _
          go_wp2_with fail
          go_roundw
          case rel => exact ⟨i + 1, j + 1, cs.set i x, by omega, by omega, by go_num, by go_num, by simp [hcl], HT', HD2, HG', HC'⟩
          case measure => simp [intOf]; omega
      · obtain rfl : j = n := by omega
        have hxt : xs.take j = xs := List.take_of_length_le (by have := Hl.out; omega)
        have HT' : Hid (cs.take i = keepF p xs) := by rw [Hid, HT.out, hxt]
        have HKL : Hid ((keepF p xs).length = i) := by rw [Hid, ← HT'.out, List.length_take]; omega
        obtain ⟨W2, hW2⟩ : ∃ W2, W2 = wr.setRow g ((cs.map (Value.int .i64) ++ rest).take i ++ (Builtin.zeroCells (Value.int .i64 0).cells (j - i)).toList ++ (cs.map (Value.int .i64) ++ rest).drop (i + (j - i) * (Value.int .i64 0).cells.size)).toArray := ⟨_, rfl⟩
        have hcl2 : Hid (∀ ty, (Builtin.clear_ #[48] ty #[.slice (some ⟨g, i, none⟩) (j - i) (cap - i)]).run Try.prog wr = .ok (.tuple #[]) W2) := fun ty => by
          rw [hW2]
          exact run_clear_row wr _ _ ty (.int .i64 0) Try.underlying48 (fun _ => rfl) (by decide) g i (j - i) _ (by omega) _ _ HG.out (by simp only [List.length_append, List.length_map, hcl]; show i + (j - i) * 1 ≤ _; omega)
        have hz : (Builtin.zeroCells (Value.int .i64 0).cells (j - i)).toList.length = j - i := by rw [Array.length_toList, size_zeroCells]; show (j - i) * 1 = _; omega
        have HW2g : Hid (∃ rest' : List Value, (keepF p xs).length + rest'.length = cap ∧ W2.heap[g]? = some (.cells ((keepF p xs).map (Value.int .i64) ++ rest').toArray 3 (0, 0))) := by
          refine ⟨(Builtin.zeroCells (Value.int .i64 0).cells (j - i)).toList ++ (cs.map (Value.int .i64) ++ rest).drop (i + (j - i) * (Value.int .i64 0).cells.size), ?_, ?_⟩
          · rw [HKL.out, List.length_append, hz, List.length_drop, List.length_append, List.length_map, hcl]
            show i + (j - i + (j + rest.length - (i + (j - i) * 1))) = cap
            omega
          · rw [hW2, setRow_heap wr g _ _ 3 _ HG.out, ← HT'.out, List.take_append_of_le_length (by simp; omega), List.map_take, List.append_assoc]
        have HCw : Hid (Chg (fun y => y = g) w W2) := by
          rw [hW2]
          have := grown_setRow (w := wr) (wr := wr) (g := g) ⟨rfl, rfl, rfl, Nat.le_refl _, fun _ _ _ => rfl⟩ ((cs.map (Value.int .i64) ++ rest).take i ++ (Builtin.zeroCells (Value.int .i64 0).cells (j - i)).toList ++ (cs.map (Value.int .i64) ++ rest).drop (i + (j - i) * (Value.int .i64 0).cells.size)).toArray
          exact HC.out.trans ⟨this.os, this.tape, this.output, this.size, fun k hk hs => this.block k hk fun e => hs (by injection e)⟩
        have hic : ¬ cap = i := by omega
        have hci : i ≤ cap := by omega
        have hij' : i ≤ j := by omega
        clear hW2 hz
        have hcl3 := hcl2.out
        go_wp2
        go_ret
        obtain ⟨rest', r1, r2⟩ := HW2g.out
        exact ⟨rest', by rw [HKL.out]; rfl, r1, r2, HCw.out⟩
/-- An empty one stays as it is. -/
theorem deleteFuncInt_nil (w : World) (f : FuncId) (cp : Value) (hcf : ∀ (args : Array Value) (W : World), (callFunc f args).run Try.prog W = .ok (.enter f args) W) (A : Option Addr) (c : Nat) :
    Calls Try.prog 83 #[.slice A 0 c, .func (.func f) #[] #[cp]] w fun e w' => e = .returned (.slice A 0 c) ∧ w = w' := by
  have HI := Lib.hid (indexFuncInt_any w f cp hcf (fun _ => false) [] (fun x hx => by simp at hx) (fun _ => True) A 0 c Sl.nil (by unfold maxLen; omega))
  have hb : idxF true (([] : List Int).map fun _ => false) = -1 := rfl
  rw [hb] at HI
  clear hb
  go_enter Try.func83, Try.ntmps83
  go_wp2_with fail
  (with_reducible refine (HI.out).mono ?_)
  rintro e w' ⟨rfl, rfl⟩
  go_wp2_with fail
  go_ret
  exact ⟨rfl, rfl⟩
theorem keepF_mem {p : Int → Bool} {xs : List Int} {x : Int} (h : x ∈ keepF p xs) : x ∈ xs := (List.mem_filter.1 h).1
theorem deleteFuncInt_own (w : World) (f : FuncId) (cp : Value) (hcf : ∀ (args : Array Value) (W : World), (callFunc f args).run Try.prog W = .ok (.enter f args) W) (p : Int → Bool) (base : Nat) (v : Value) (xs : List Int) (ho : Own 1 eInt w base 3 v xs)
    (hfn : ∀ (W : World), Chg (fun y => v.ownBlock = some y) w W → ∀ x ∈ xs, Calls Try.prog f #[.int .i64 x, cp] W fun e w' => e = .returned (.bool (p x)) ∧ W = w') :
    Calls Try.prog 83 #[v, .func (.func f) #[] #[cp]] w fun e w' => ∃ A c, e = .returned (.slice A (keepF p xs).length c) ∧ Sl 1 eInt w' (fun y => v.ownBlock = some y) A (keepF p xs).length (keepF p xs) ∧ Chg (fun y => v.ownBlock = some y) w w' := by
  rcases Nat.eq_zero_or_pos xs.length with h0 | h0
  · obtain ⟨A, c, rfl, _, _⟩ := ho.slC sInt (by decide)
    obtain rfl := List.eq_nil_of_length_eq_zero h0
    refine (deleteFuncInt_nil w f cp hcf A c).mono ?_
    rintro e w' ⟨rfl, rfl⟩
    exact ⟨A, c, rfl, Sl.nil, Chg.refl _ _⟩
  · obtain ⟨g, cap, cur, rfl, hbg, hg, hnc, hcm, hcs, htk, hw⟩ := own_ints ho h0
    have hbk : (fun y => (Value.slice (some ⟨g, 0, none⟩) xs.length cap).ownBlock = some y) = fun y => y = g := by
      funext y
      simp [Value.ownBlock, eq_comm]
    rw [hbk] at hfn ⊢
    have hln : xs.length + (cur.toList.drop xs.length).length = cap := by rw [List.length_drop, Array.length_toList (xs := cur), hcs]; omega
    have hcur : cur = (xs.map (Value.int .i64) ++ cur.toList.drop xs.length).toArray := by
      rw [← htk, List.take_append_drop]
    rw [hcur] at hg
    refine (deleteFuncInt_row w f cp hcf p g xs.length cap xs _ hfn hg rfl hw hln hcm).mono ?_
    rintro e w' ⟨rest', rfl, hl, hg', hc⟩
    refine ⟨_, _, rfl, Sl.lit hg' rfl rfl fun i x hx => ?_, hc⟩
    have hi := (List.getElem?_eq_some_iff.1 hx).1
    refine ⟨?_, hw x (keepF_mem (List.mem_of_getElem? hx))⟩
    simp only [Nat.mul_one, Nat.add_zero, List.getElem?_toArray]
    rw [List.getElem?_append_left (by simpa using hi), List.getElem?_map, hx]; rfl
end Go.Proofs.Ytnfjghldcopaaaa
namespace Go.Proofs.Ytnfjghldcopaaaa

/-- The symbols that weren't used. -/
def opn : List Sm → List Bool → List Sm
  | x :: xs, u :: us => if u then opn xs us else x :: opn xs us
  | _, _ => []
theorem opn_cons {xs : List Sm} {U : List Bool} {i : Nat} {x : Sm} {u : Bool} (hx : xs[i]? = some x) (hu : U[i]? = some u) : opn (xs.drop i) (U.drop i) = if u then opn (xs.drop (i + 1)) (U.drop (i + 1)) else x :: opn (xs.drop (i + 1)) (U.drop (i + 1)) := by
  rw [drop_cons hx, drop_cons hu, opn]
theorem opn_app : ∀ {xs ys : List Sm} {U V : List Bool}, xs.length = U.length → opn (xs ++ ys) (U ++ V) = opn xs U ++ opn ys V
  | [], ys, [], V, _ => by simp [opn]
  | x :: xs, ys, u :: us, V, h => by
    have := opn_app (xs := xs) (ys := ys) (U := us) (V := V) (by simpa using h)
    simp only [List.cons_append, opn, this]
    split <;> rfl
  | [], _, _ :: _, _, h => by simp at h
  | _ :: _, _, [], _, h => by simp at h
theorem opn_snoc {xs : List Sm} {U : List Bool} {i : Nat} {x : Sm} {u : Bool} (hl : xs.length = U.length) (hx : xs[i]? = some x) (hu : U[i]? = some u) : opn (xs.take (i + 1)) (U.take (i + 1)) = opn (xs.take i) (U.take i) ++ if u then [] else [x] := by
  rw [take_snoc' hx, take_snoc' hu, opn_app (by simp [hl])]
  simp only [opn]
theorem opn_all : ∀ (xs : List Sm), opn xs (List.replicate xs.length false) = xs
  | [] => rfl
  | x :: xs => by rw [List.length_cons, List.replicate_succ, opn, opn_all xs]; rfl
theorem opn_mem : ∀ {xs : List Sm} {U : List Bool} {x : Sm}, x ∈ opn xs U → x ∈ xs
  | [], _, _, h => by simp [opn] at h
  | _ :: _, [], _, h => by simp [opn] at h
  | y :: xs, u :: us, x, h => by
    rw [opn] at h
    split at h
    · exact List.mem_cons_of_mem _ (opn_mem h)
    · rcases List.mem_cons.1 h with rfl | h
      · simp
      · exact List.mem_cons_of_mem _ (opn_mem h)

/-- Where a round stands: what was open, what is known by now, what was left, whether something came. -/
def RndAt (kn0 : Kn) (xs0 xs : List Sm) (U : List Bool) (i : Nat) (kn : Kn) (m : Bool) : Prop :=
  pRound kn0 xs0 = ((pRound kn (opn (xs.drop i) (U.drop i))).1, opn (xs.take i) (U.take i) ++ (pRound kn (opn (xs.drop i) (U.drop i))).2.1, m || (pRound kn (opn (xs.drop i) (U.drop i))).2.2)
theorem rndAt_zero (kn : Kn) (xs : List Sm) (U : List Bool) : RndAt kn (opn xs U) xs U 0 kn false := by
  unfold RndAt
  simp [opn]
theorem RndAt.used {kn0 kn : Kn} {xs0 xs : List Sm} {U : List Bool} {i : Nat} {m : Bool} (h : RndAt kn0 xs0 xs U i kn m) (hl : xs.length = U.length) {x : Sm} (hx : xs[i]? = some x) (hu : U[i]? = some true) : RndAt kn0 xs0 xs U (i + 1) kn m := by
  unfold RndAt at h ⊢
  rw [h, opn_cons hx hu, if_pos rfl, opn_snoc hl hx hu, if_pos rfl, List.append_nil]
theorem RndAt.step {kn0 kn : Kn} {xs0 xs : List Sm} {U : List Bool} {i : Nat} {m : Bool} (h : RndAt kn0 xs0 xs U i kn m) {x : Sm} (hx : xs[i]? = some x) (hu : U[i]? = some false) :
    pRound kn0 xs0 = ((pRound (pOne kn x).1 (opn (xs.drop (i + 1)) (U.drop (i + 1)))).1, opn (xs.take i) (U.take i) ++ ((pOne kn x).2.1 ++ (pRound (pOne kn x).1 (opn (xs.drop (i + 1)) (U.drop (i + 1)))).2.1), m || ((pOne kn x).2.2 || (pRound (pOne kn x).1 (opn (xs.drop (i + 1)) (U.drop (i + 1)))).2.2)) := by
  unfold RndAt at h
  rw [h, opn_cons hx hu, if_neg (by simp), pRound]
theorem RndAt.stays {kn0 kn : Kn} {xs0 xs : List Sm} {U : List Bool} {i : Nat} {m : Bool} (h : RndAt kn0 xs0 xs U i kn m) (hl : xs.length = U.length) {x : Sm} (hx : xs[i]? = some x) (hu : U[i]? = some false) (hp : pOne kn x = (kn, [x], false)) : RndAt kn0 xs0 xs U (i + 1) kn m := by
  have := h.step hx hu
  rw [hp] at this
  unfold RndAt
  rw [this, opn_snoc hl hx hu, if_neg (by simp)]
  simp
theorem RndAt.goes {kn0 kn kn' : Kn} {xs0 xs : List Sm} {U : List Bool} {i : Nat} {m m' : Bool} (h : RndAt kn0 xs0 xs U i kn m) (hl : xs.length = U.length) {x : Sm} (hx : xs[i]? = some x) (hu : U[i]? = some false) (hp : pOne kn x = (kn', [], m')) : RndAt kn0 xs0 xs (U.set i true) (i + 1) kn' (m || m') := by
  have := h.step hx hu
  rw [hp] at this
  have hi := (List.getElem?_eq_some_iff.1 hu).1
  unfold RndAt
  rw [this, opn_snoc (by simp [hl]) hx (u := true) (by rw [List.getElem?_set_self hi]), if_pos rfl, List.append_nil, List.drop_set_of_lt (by omega), List.take_set_of_le (Nat.le_refl _)]
  simp [Bool.or_assoc]
theorem RndAt.done {kn0 kn : Kn} {xs0 xs : List Sm} {U : List Bool} {i : Nat} {m : Bool} (h : RndAt kn0 xs0 xs U i kn m) (hl : xs.length = U.length) (hi : i = xs.length) : pRound kn0 xs0 = (kn, opn xs U, m) := by
  unfold RndAt at h
  rw [h, List.drop_eq_nil_of_le (by omega), List.take_of_length_le (by omega), List.take_of_length_le (by omega)]
  simp [opn, pRound]

/-- The ones that aren't known, off the picked numbers. -/
theorem keepF_miss (H : List Bool) (kn : Kn) : keepF (fun k => kn.isK k.toNat) (selIdx H) = (miss H kn H.length).map fun k : Nat => (k : Int) := by
  unfold keepF selIdx miss
  rw [List.filter_map, List.filter_filter]
  congr 1
  apply List.filter_congr
  intro k _
  simp [Bool.and_comm]
/-- The ones that are. -/
def gotL (kn : Kn) (L : List Int) : List (List UInt8) := L.filterMap fun k => kn.getD k.toNat none
theorem gotL_idx (H : List Bool) (kn : Kn) : gotL kn (selIdx H) = got H kn H.length := by
  unfold gotL selIdx got
  rw [List.filterMap_map, List.filterMap_filter]
  refine congrArg (fun f => List.filterMap f _) (funext fun k => ?_)
  simp only [Function.comp, Int.toNat_natCast]
theorem gotL_snoc {kn : Kn} {L : List Int} {t : Nat} {k : Int} (h : L[t]? = some k) : gotL kn (L.take (t + 1)) = gotL kn (L.take t) ++ (kn.getD k.toNat none).toList := by
  rw [take_snoc' h]
  unfold gotL
  rw [List.filterMap_append]
  congr 1
theorem gotL_zero (kn : Kn) (L : List Int) : gotL kn (L.take 0) = [] := rfl
theorem length_gotL (kn : Kn) (L : List Int) : (gotL kn L).length ≤ L.length := List.length_filterMap_le _ _
/-- All picked numbers but the lacking one are known. -/
theorem gotL_known {H : List Bool} {kn : Kn} {a t : Nat} {k : Int} (hm : miss H kn H.length = [a]) (h : (selIdx H)[t]? = some k) : (k = (a : Int) ∧ kn.getD k.toNat none = none) ∨ (k ≠ (a : Int) ∧ ∃ l, kn[k.toNat]? = some (some l)) := by
  obtain ⟨j, rfl, hj⟩ := (Sel.idx H).bd k (List.mem_of_getElem? h)
  have hin := ((Sel.idx H).iff j hj).2 (List.mem_of_getElem? h)
  have ha : a ∈ miss H kn H.length := by rw [hm]; simp
  obtain ⟨_, _, ha3⟩ := mem_miss.1 ha
  rw [Int.toNat_natCast]
  by_cases e : j = a
  · subst e
    refine .inl ⟨rfl, ?_⟩
    unfold Kn.isK at ha3
    cases h2 : kn.getD j none with
    | none => rfl
    | some _ => rw [h2] at ha3; cases ha3
  · refine .inr ⟨fun e' => e (by omega), isK_iff.1 ?_⟩
    cases h2 : kn.isK j with
    | true => rfl
    | false =>
      have : j ∈ miss H kn H.length := mem_miss.2 ⟨hj, hin, h2⟩
      rw [hm, List.mem_singleton] at this
      exact absurd this e
/-- What the sum is of. -/
theorem told_xor {K : Nat} (hK : 1 ≤ K ∧ K ≤ 16) {kn : Kn} (hl : KnLen K kn) (has : List Bool) {d : List UInt8} (hd : d.length = K) : sumCheck (d :: got has kn kn.length) = 0 ∧ xorAll K (d :: got has kn kn.length) = told has d kn := by
  have h := (told_facts hK hl has hd).1
  unfold sumAdd at h
  split at h
  · injection h with _ h; contradiction
  · rename_i h0
    rw [if_neg (by simp)] at h
    injection h with h1 _
    refine ⟨by simpa using h0, ?_⟩
    rw [← h1, List.headD_cons, hd]
end Go.Proofs.Ytnfjghldcopaaaa
namespace Go.Proofs.Ytnfjghldcopaaaa
open Go.RowKit

set_option maxHeartbeats 1000000 in
theorem picked_any (w : World) : Calls Try.prog 31 #[] w fun e w' => e = .returned (.bool true) ∧ Fr w w' := by
  have E1 : Hid (pickOf 1 3 = ([false, true, false], 0)) := by unfold Hid; decide +kernel
  have E2 : Hid ((pickOf 7 3).2 = 0 ∧ (pickOf 7 3).1.length = 3 ∧ cnt (pickOf 7 3).1 = 2) := by unfold Hid; decide +kernel
  obtain ⟨X, hX⟩ : ∃ X, X = (pickOf 7 3).1 := ⟨_, rfl⟩
  have E3 : Hid (pickOf 7 3 = (X, 0)) := by rw [Hid, hX, ← E2.out.1]
  have E4 : Hid (X.length = 3 ∧ cnt X = 2) := by rw [Hid, hX]; exact E2.out.2
  clear hX
  go_enter Try.func31, Try.ntmps31
  go_wp2_with fail
  refine (pickOf_any _ _ _).mono ?_
  rw [E1.out]
  rintro e w1 ⟨A1, n1, c1, rfl, hn1, _, hs1, hf1⟩
  obtain rfl : n1 = 3 := hs1.1.symm
  (have Hs1 := Lib.hid hs1; clear hs1; have Hf1 := Lib.hid hf1; clear hf1)
  go_wp2_with fail
  refine (pickOf_any _ _ _).mono ?_
  rw [E3.out]
  rintro e w2 ⟨A2, n2, c2, rfl, hn2, _, hs2, hf2⟩
  obtain rfl : n2 = 3 := by rw [← hs2.1]; exact E4.out.1
  (have Hs2 := Lib.hid hs2; clear hs2; have Hf2 := Lib.hid hf2; clear hf2)
  go_wp2_with fail
  go_loop [5, 18] (fun n i => ∃ k : Nat, k ≤ 3 ∧ i = .int .i64 k ∧ n = .int .i64 (cnt (X.take k) : Nat)) (fun _ i => 3 - (intOf i).toNat)
  case atStart => exact ⟨0, Nat.zero_le _, rfl, rfl⟩
  case round =>
    obtain ⟨k, hk, rfl, rfl⟩ := hrel
    by_cases hlt : k < 3
    · obtain ⟨ad, rfl, hE⟩ := Hs2.out.els (by omega)
      obtain ⟨b, hb, hc⟩ := hE.bool hlt
      have HC := Lib.hid (cnt_take hb)
      have hcl : cnt (X.take k) ≤ 3 := Nat.le_trans (cnt_le _) (by rw [List.length_take]; omega)
      obtain ⟨q, hq⟩ : ∃ q, q = cnt (X.take k) := ⟨_, rfl⟩
      rw [← hq] at hcl
      rw [← hq]
      have HQ := Lib.hid hq
      clear hb hq
      cases b
      all_goals
        go_wp2
        go_round
        case rel => exact ⟨k + 1, by omega, by go_num, by rw [HC.out, ← HQ.out]; go_num⟩
        case measure => simp [intOf]; omega
    · obtain rfl : k = 3 := by omega
      have hq : Hid (cnt (X.take 3) = 2) := by rw [Hid, List.take_of_length_le (by rw [E4.out.1]; omega)]; exact E4.out.2
      rw [hq.out]
      go_wp2_with fail
      refine (equalBools_any _ _ Any _ _ _ _ _ _ [false, true, false] [false, true, false] (Hs1.out.go sBool (by (repeat' (first | exact Below.refl _ _ | refine below_drewN ?_ _ | refine Below.drew ?_ | refine frA ?_ _ | refine Fr.trans ?_ Hf3.out | refine Fr.trans ?_ Hf2.out | refine Fr.trans ?_ Hf1.out)))) ?_ (by decide)).mono ?_
      · apply Sl.litBools (hS := trivial) (hn := rfl)
        · (repeat' (first | (refine heap_new ?_; (first | (simp; done) | rfl); done) | refine heap_dn ?_ | refine heap_d ?_ | refine heap_old ?_))
        · rfl
      · rintro e w3 ⟨rfl, m, rfl⟩
        go_wp2_with fail
        go_ret
        exact ⟨rfl, (by (repeat' (first | exact Below.refl _ _ | refine below_drewN ?_ _ | refine Below.drew ?_ | refine frA ?_ _ | refine Fr.trans ?_ Hf3.out | refine Fr.trans ?_ Hf2.out | refine Fr.trans ?_ Hf1.out)))⟩

end Go.Proofs.Ytnfjghldcopaaaa
namespace Go.Proofs.Ytnfjghldcopaaaa
open Go.RowKit
attribute [local irreducible] wpList

set_option maxHeartbeats 400000 in
theorem refPicked_any (w : World) (id b : Int) :
    Calls Try.prog 30 #[.int .i64 id, .int .i64 b] w fun e w' => ∃ A n c, e = .returned (.tuple #[.slice A n c, .int .i64 (pickedR id b).2]) ∧ (n ≤ c ∧ c ≤ maxLen) ∧ Sl 1 eInt w' (LT w'.heap.size) A n (pickedR id b).1 ∧ Fr w w' := by
  by_cases h : 0 ≤ id ∧ id ≤ 9999 ∧ 1 ≤ b ∧ b ≤ 24
  · have E : pickedR id b = (selIdx (pickHas id.toNat b.toNat), 0) := if_pos h
    rw [E]
    obtain ⟨i, rfl⟩ := Int.eq_ofNat_of_zero_le h.1
    obtain ⟨m, rfl⟩ := Int.eq_ofNat_of_zero_le (show 0 ≤ b by omega)
    simp only [Int.toNat_natCast]
    by_cases hlt : i < m
    · have r1 : inR i 0 9999 = true := inR_t (by omega)
      have r2 : inR m 1 24 = true := inR_t (by omega)
      have e1 : selIdx (pickHas i m) = [(i : Int)] := by unfold pickHas; rw [if_pos hlt]; exact selIdx_one hlt
      have hwi : wfI (i : Int) := wfI.mk (by omega)
      rw [e1]
      clear E e1
      (have Hwi := Lib.hid hwi; clear hwi)
      go_enter Try.func30, Try.ntmps30
      go_wp2_with (go_at_call 61; refine (in_any _ _ _ _).mono ?_; rintro e w' ⟨rfl, rfl⟩)
      go_ret2
      refine ⟨_, _, _, rfl, ⟨Nat.le_refl _, by unfold maxLen; omega⟩, Sl.litInts (heap_new rfl) (by simp [LT]) rfl ?_ rfl, frAlloc _ _⟩
      intro x hx
      obtain rfl : x = (i : Int) := by simpa using hx
      exact Hwi.out
    · exact refPicked_more w i m (by omega) (by omega) (by omega) (by omega)
  · have E : pickedR id b = ([], 3) := if_neg h
    rw [E]
    by_cases h1 : 0 ≤ id ∧ id ≤ 9999
    · have r1 : inR id 0 9999 = true := inR_t h1
      have r2 : inR b 1 24 = false := inR_f (by omega)
      clear E h h1
      go_enter Try.func30, Try.ntmps30
      go_wp2_with (go_at_call 61; refine (in_any _ _ _ _).mono ?_; rintro e w' ⟨rfl, rfl⟩)
      go_ret2
      exact ⟨_, _, _, rfl, ⟨Nat.le_refl _, by unfold maxLen; omega⟩, Sl.nil, Below.refl _ _⟩
    · have r1 : inR id 0 9999 = false := inR_f h1
      clear E h h1
      go_enter Try.func30, Try.ntmps30
      go_wp2_with (go_at_call 61; refine (in_any _ _ _ _).mono ?_; rintro e w' ⟨rfl, rfl⟩)
      go_ret2
      exact ⟨_, _, _, rfl, ⟨Nat.le_refl _, by unfold maxLen; omega⟩, Sl.nil, Below.refl _ _⟩

theorem picked_has {X : List Bool} {k : Nat} {b : Bool} (h : X[k]? = some b) : decide ((k : Int) ∈ selIdx X) = b := by
  have hk := (List.getElem?_eq_some_iff.1 h).1
  have h1 := (Sel.idx X).iff k hk
  rw [List.getD_eq_getElem?_getD, h] at h1
  cases b
  · simp at h1; simpa using h1
  · simp at h1; simpa using h1

set_option maxHeartbeats 400000 in
theorem pickSays_any (w : World) (id : Int) (wi : wfI id) (many : Int) (wm : wfI many) :
    Calls Try.prog 6 #[.int .i64 id, .int .i64 many] w fun e w' => e = .returned (.bool true) ∧ Fr w w' := by
  by_cases h : 0 ≤ id ∧ id ≤ 9999 ∧ 1 ≤ many ∧ many ≤ 24
  · obtain ⟨i, rfl⟩ := Int.eq_ofNat_of_zero_le h.1
    obtain ⟨m, rfl⟩ := Int.eq_ofNat_of_zero_le (show 0 ≤ many by omega)
    obtain ⟨X, hX⟩ : ∃ X, X = pickHas i m := ⟨_, rfl⟩
    have E : Hid (pickOf i m = (X, 0)) := by rw [Hid, hX]; exact if_pos h
    have E2 : Hid (pickedR i m = (selIdx X, 0)) := by rw [Hid, hX]; exact if_pos h
    have hXl : Hid (X.length = m) := by rw [Hid, hX]; exact length_pickHas i m
    have hm : 1 ≤ m ∧ m ≤ 24 := by omega
    obtain ⟨hm1, hm2⟩ := hm
    (have HX := Lib.hid hX; clear hX; have H := Lib.hid h; clear h)
    clear wi wm
    go_enter Try.func6, Try.ntmps6
    go_wp2_with fail
    (with_reducible refine (pickOf_any _ _ _).mono ?_)
    rw [E.out]
    rintro e w1 ⟨A1, n1, c1, rfl, _, _, hs1, hf1⟩
    obtain rfl : n1 = m := hs1.1.symm.trans hXl.out
    (have Hs1 := Lib.hid hs1; clear hs1; have Hf1 := Lib.hid hf1; clear hf1)
    go_wp2_with fail
    (with_reducible refine (refPicked_any _ _ _).mono ?_)
    rw [E2.out]
    rintro e w2 ⟨A2, n2, c2, rfl, ⟨hc2, hx2⟩, hs2, hf2⟩
    (have Hs2 := Lib.hid hs2; clear hs2; have Hf2 := Lib.hid hf2; clear hf2)
    go_wp2_with fail
    (with_reducible refine (picked_any _).mono ?_)
    rintro e w3 ⟨rfl, hf3⟩
    have hs1' := Hs1.out.go sBool (Hf2.out.trans hf3)
    have hs2' := Hs2.out.go sInt hf3
    have hn2 : n2 ≤ maxLen := by omega
    (have Hf3 := Lib.hid hf3; clear hf3; have Hs1' := Lib.hid hs1'; clear hs1'; have Hs2' := Lib.hid hs2'; clear hs2')
    go_wp2_with fail
    go_loop [51] (fun i => ∃ k : Nat, k ≤ n1 ∧ i = .int .i64 k) (fun i => n1 - (intOf i).toNat)
    case atStart => exact ⟨0, Nat.zero_le _, rfl⟩
    case round =>
      obtain ⟨k, hk, rfl⟩ := hrel
      by_cases hlt : k < n1
      · obtain ⟨ad, rfl, hE⟩ := Hs1'.out.els (by omega)
        obtain ⟨b, hb, hc⟩ := hE.bool hlt
        have HD := Lib.hid (picked_has hb)
        clear hb
        go_wp2_with fail
        (with_reducible refine (containsInt_any _ _ _ _ _ (selIdx X) (k : Int) Hs2'.out hn2).mono ?_)
        rw [HD.out]
        rintro e w4 ⟨rfl, rfl⟩
        cases b
        all_goals
          go_wp2_with fail
          go_round
          case rel => exact ⟨k + 1, by omega, by go_num⟩
          case measure => simp [intOf]; omega
      · obtain rfl : k = n1 := by omega
        go_wp2_with fail
        go_ret
        exact ⟨rfl, (by (repeat' (first | exact Below.refl _ _ | refine below_drewN ?_ _ | refine Below.drew ?_ | refine frA ?_ _ | refine Fr.trans ?_ Hf3.out | refine Fr.trans ?_ Hf2.out | refine Fr.trans ?_ Hf1.out)))⟩
  · have E : Hid (pickOf id many = ([], 3)) := if_neg h
    have E2 : Hid (pickedR id many = ([], 3)) := if_neg h
    clear h wi wm
    go_enter Try.func6, Try.ntmps6
    go_wp2_with fail
    (with_reducible refine (pickOf_any _ _ _).mono ?_)
    rw [E.out]
    rintro e w1 ⟨A1, n1, c1, rfl, _, _, hs1, hf1⟩
    obtain rfl : n1 = 0 := hs1.1.symm
    (have Hs1 := Lib.hid hs1; clear hs1; have Hf1 := Lib.hid hf1; clear hf1)
    go_wp2_with fail
    (with_reducible refine (refPicked_any _ _ _).mono ?_)
    rw [E2.out]
    rintro e w2 ⟨A2, n2, c2, rfl, ⟨hc2, hx2⟩, hs2, hf2⟩
    (have Hs2 := Lib.hid hs2; clear hs2; have Hf2 := Lib.hid hf2; clear hf2)
    go_wp2_with fail
    (with_reducible refine (picked_any _).mono ?_)
    rintro e w3 ⟨rfl, hf3⟩
    (have Hf3 := Lib.hid hf3; clear hf3)
    go_wp2_with fail
    (with_reducible refine (picked_any _).mono ?_)
    rintro e w4 ⟨rfl, hf4⟩
    (have Hf4 := Lib.hid hf4; clear hf4)
    go_wp2_with fail
    go_ret
    exact ⟨rfl, (by (repeat' (first | exact Below.refl _ _ | refine below_drewN ?_ _ | refine Below.drew ?_ | refine frA ?_ _ | refine Fr.trans ?_ Hf4.out | refine Fr.trans ?_ Hf3.out | refine Fr.trans ?_ Hf2.out | refine Fr.trans ?_ Hf1.out)))⟩
end Go.Proofs.Ytnfjghldcopaaaa
namespace Go.Proofs.Ytnfjghldcopaaaa
open Go.RowKit

theorem ofInt_i64 (a : Nat) (ha : a < 9223372036854775808) : (BitVec.ofInt 64 (a : Int)).toNat = a := by
  rw [BitVec.ofInt_natCast, BitVec.toNat_ofNat]; exact Nat.mod_eq_of_lt (by omega)
theorem i64_and_nat (a b : Nat) (ha : a < 9223372036854775808) (hb : b < 9223372036854775808) : bits .and .i64 (a : Int) (b : Int) = ((a &&& b : Nat) : Int) := by
  have hx : a &&& b < 2 ^ 63 := Nat.and_lt_two_pow _ (by omega)
  show IntKind.i64.wrap ((BitVec.ofInt 64 (a : Int) &&& BitVec.ofInt 64 (b : Int)).toNat : Int) = _
  rw [BitVec.toNat_and, ofInt_i64 a ha, ofInt_i64 b hb, IntKind.wrap_i64]
  omega
theorem count_step (q y t : Nat) (hy : y < 256) (hq : q ≤ 140737488355328) : wrap64 ((q : Int) + bits .and .i64 (wrap64 ((y : Int) / 2 ^ t)) 1) = ((q + y / 2 ^ t % 2 : Nat) : Int) := by
  have h1 : ((y : Int) / 2 ^ t) = ((y / 2 ^ t : Nat) : Int) := by simp
  have h2 : y / 2 ^ t ≤ y := Nat.div_le_self _ _
  have h3 : wrap64 ((y / 2 ^ t : Nat) : Int) = ((y / 2 ^ t : Nat) : Int) := by
    generalize y / 2 ^ t = d at *
    exact IntWalk.wrap64_in _ (by omega)
  have h4 := i64_and_nat (y / 2 ^ t) 1 (by omega) (by omega)
  rw [h1, h3, show (1 : Int) = ((1 : Nat) : Int) from rfl, h4, Nat.and_one_is_mod]
  generalize y / 2 ^ t = d at *
  rw [IntWalk.wrap64_in _ (by omega)]
  omega
theorem or_step (x q t : Nat) (hx : x < 2 ^ t) (ht : t < 8) : bits .or .u8 (x : Int) ((q : Int) % 2 * 2 ^ t % 256) = ((x + 2 ^ t * (q % 2) : Nat) : Int) := by
  have h8 : 2 ^ (t + 1) ≤ 2 ^ 8 := Nat.pow_le_pow_right (by omega) (by omega)
  have h2 : 2 ^ t * (q % 2) ≤ 2 ^ t := by
    have : q % 2 ≤ 1 := by omega
    calc 2 ^ t * (q % 2) ≤ 2 ^ t * 1 := Nat.mul_le_mul_left _ this
      _ = 2 ^ t := by omega
  rw [Nat.pow_succ] at h8
  have h1 : ((q : Int) % 2 * 2 ^ t % 256) = ((2 ^ t * (q % 2) : Nat) : Int) := by
    have : ((q : Int) % 2 * 2 ^ t) = ((2 ^ t * (q % 2) : Nat) : Int) := by
      rw [Int.natCast_mul, Int.mul_comm]; simp
    rw [this]
    omega
  rw [h1, u8_or_nat _ _ (by omega) (by omega)]
  congr 1
  rw [Nat.or_comm, ← Nat.two_pow_add_eq_or_of_lt hx, Nat.add_comm]

/-- The sum of bytes. -/
def xb (l : List UInt8) : UInt8 := l.foldl (· ^^^ ·) 0
theorem xorAll_get {n k : Nat} : ∀ {ls : List (List UInt8)} {acc : List UInt8}, (∀ l ∈ ls, l.length = n) → acc.length = n → k < n → (ls.foldl zx acc)[k]? = some ((ls.map (·.getD k 0)).foldl (· ^^^ ·) (acc.getD k 0))
  | [], acc, _, ha, hk => by simp [List.getElem?_eq_getElem (show k < acc.length by omega)]
  | b :: r, acc, h, ha, hk => by
    have hb := h b (by simp)
    rw [List.foldl_cons, xorAll_get (ls := r) (fun l hl => h l (by simp [hl])) (by rw [length_zx (by omega)]; exact ha) hk]
    have : (zx acc b).getD k 0 = acc.getD k 0 ^^^ b.getD k 0 := by
      simp [zx, List.getElem?_zipWith, List.getElem?_eq_getElem (show k < acc.length by omega), List.getElem?_eq_getElem (show k < b.length by omega)]
    rw [this]; rfl
theorem bit_xor (a b : UInt8) (t : Nat) : (a ^^^ b).toNat / 2 ^ t % 2 = (a.toNat / 2 ^ t % 2 + b.toNat / 2 ^ t % 2) % 2 := by
  have h := Nat.testBit_xor (x := a.toNat) (y := b.toNat) (i := t)
  rw [Nat.testBit_eq_decide_div_mod_eq, Nat.testBit_eq_decide_div_mod_eq, Nat.testBit_eq_decide_div_mod_eq] at h
  rw [UInt8.toNat_xor]
  by_cases h1 : a.toNat / 2 ^ t % 2 = 1 <;> by_cases h2 : b.toNat / 2 ^ t % 2 = 1 <;> simp [h1, h2] at h ⊢ <;> omega

set_option maxHeartbeats 1000000 in
theorem refSum_any (w : World) (A : Option Addr) (n c n0 : Nat) (ls : List (List UInt8)) (h : Sl 1 eBlock w (LT w.heap.size) A n ls) (hm : n ≤ lim) (hc : sumCheck ls = 0) (hn : 0 < n) (hn0 : n0 = (ls.headD []).length) :
    Calls Try.prog 78 #[.slice A n c] w fun e w' => ∃ v, e = .returned v ∧ Own 1 eByte w' w.heap.size 5 v (xorAll n0 ls) ∧ Fr w w' := by
  have hlen : Hid (∀ l ∈ ls, l.length = n0) := fun l hl => by rw [hn0]; exact (sumCheckFrom_ok hc l hl).1
  have hb : 1 ≤ n0 ∧ n0 ≤ 16 := by
    have := h.1
    cases ls with
    | nil => simp at this; omega
    | cons l r =>
      have := sumCheckFrom_ok hc l (by simp)
      simp at hn0 this
      omega
  obtain ⟨hb1, hb2⟩ := hb
  have HC := Lib.hid hc
  have H := Lib.hid h
  obtain ⟨ad, rfl, hE⟩ := h.els hn
  obtain ⟨A0, n0', c0, l0, hl0, hc0, hm0, hs0⟩ := hE.block0 hn
  obtain rfl : n0' = n0 := by rw [hn0, ← hs0.1, List.headD_eq_head?_getD, hl0]; rfl
  have HN0 := Lib.hid hn0
  clear hn0 h hc hs0 hm0 hl0
  have hm1 := hm
  unfold lim at hm1
  go_enter Try.func78, Try.ntmps78
  go_wp2_with fail
  go_loopw [3, 14] (fun v i wr => ∃ k : Nat, k ≤ n0' ∧ i = .int .i64 k ∧ Own 1 eByte wr w.heap.size 5 v ((xorAll n0' ls).take k) ∧ Below w.heap.size w wr) (fun _ i _ => n0' - (intOf i).toNat)
  case atStart => exact ⟨0, Nat.zero_le _, rfl, Own.nil, Below.refl _ _⟩
  case round =>
    obtain ⟨k, hk, rfl, hown, HB⟩ := hrel
    have HOW := Lib.hid hown
    clear hown
    by_cases hlt : k < n0'
    · obtain ⟨z, hz⟩ : ∃ z, z = xb (ls.map (·.getD k 0)) := ⟨_, rfl⟩
      have HZ : Hid ((xorAll n0' ls)[k]? = some z) := by
        rw [Hid, hz, xorAll, xorAll_get (fun l hl => hlen.out l hl) (by simp [zeros]) hlt, xb]
        congr 2
        simp [zeros, List.getElem?_replicate, hlt]
      have HZ2 := Lib.hid hz
      clear hz
      obtain ⟨wo, rfl⟩ : ∃ wo : World, wo = wr := ⟨_, rfl⟩
      go_wp2_with fail
      go_loop [5, 17] (fun cc i => ∃ (t : Nat) (x : Nat), t ≤ 8 ∧ i = .int .i64 t ∧ cc = .int .u8 x ∧ Hid (x = z.toNat % 2 ^ t)) (fun _ i => 8 - (intOf i).toNat)
      case atStart => exact ⟨0, 0, Nat.zero_le _, rfl, rfl, by simp [Hid, Nat.mod_one]⟩
      case round =>
        obtain ⟨t, x, ht, rfl, rfl, hx⟩ := hrel
        by_cases htl : t < 8
        · go_wp2_with fail
          go_loop [7, 22] (fun nn i => ∃ (j : Nat) (q : Nat), j ≤ n ∧ i = .int .i64 j ∧ nn = .int .i64 q ∧ q ≤ j ∧ Hid (q % 2 = (xb ((ls.take j).map (·.getD k 0))).toNat / 2 ^ t % 2)) (fun _ i => n - (intOf i).toNat)
          case atStart => exact ⟨0, 0, Nat.zero_le _, rfl, rfl, Nat.zero_le _, by simp [Hid, xb]⟩
          case round =>
            obtain ⟨j, q, hj, rfl, rfl, hq, HQ⟩ := hrel
            by_cases hjl : j < n
            · obtain ⟨A', n', c', l, hl, hcl, hm', hs⟩ := hE.block hjl
              have hll : Hid (l.length = n0') := hlen.out l (List.mem_of_getElem? hl)
              obtain rfl : n' = n0' := by rw [← hs.1]; exact hll.out
              have hcw : wo.cell? (ad.add j) = some (.slice A' n' c') := (HB.cell (p := ad.add j) (by rw [block_of_add]; exact hE.2.1)).trans hcl
              obtain ⟨adb, rfl, hbE⟩ := hs.els (by omega)
              obtain ⟨y, hy, hcy⟩ := hbE.byte hlt
              have hcy' : wo.cell? (adb.add k) = some (.int .u8 (y.toNat : Int)) := (HB.cell (p := adb.add k) (by rw [block_of_add]; exact hbE.2.1)).trans hcy
              have HQ' : Hid ((q + y.toNat / 2 ^ t % 2) % 2 = (xb ((ls.take (j + 1)).map (·.getD k 0))).toNat / 2 ^ t % 2) := by
                have e : (fun x : List UInt8 => x.getD k 0) l = y := by simp [hy]
                rw [Hid, take_snoc' hl, List.map_append, xb, List.foldl_append]
                simp only [List.map_cons, List.map_nil, List.foldl_cons, List.foldl_nil]
                rw [show l.getD k 0 = y from e, bit_xor]
                have hq := HQ.out
                rw [xb] at hq
                generalize (List.foldl (fun x1 x2 => x1 ^^^ x2) 0 (List.map (fun x : List UInt8 => x.getD k 0) (List.take j ls))).toNat / 2 ^ t % 2 = u at *
                generalize y.toNat / 2 ^ t % 2 = u' at *
                omega
              have hys : Hid (wrap64 ((q : Int) + bits .and .i64 (wrap64 ((y.toNat : Int) / 2 ^ t)) 1) = ((q + y.toNat / 2 ^ t % 2 : Nat) : Int)) := count_step q y.toNat t y.toNat_lt (by omega)
              clear hl hs hcl HQ hy
              go_wp2
              go_round
              case rel => exact ⟨j + 1, q + y.toNat / 2 ^ t % 2, by omega, by go_num, by rw [hys.out], by omega, HQ'⟩
              case measure => simp [intOf]; omega
            · obtain rfl : j = n := by omega
              have hq2 : Hid (q % 2 = z.toNat / 2 ^ t % 2) := by rw [HZ2.out, Hid, HQ.out, List.take_of_length_le (by have := H.out.1; omega)]
              have hos : Hid (bits .or .u8 (x : Int) ((q : Int) % 2 * 2 ^ t % 256) = ((x + 2 ^ t * (q % 2) : Nat) : Int)) := or_step x q t (by rw [hx.out]; exact Nat.mod_lt _ (Nat.pow_pos (by omega))) htl
              have hn : Hid (x + 2 ^ t * (q % 2) = z.toNat % 2 ^ (t + 1)) := by rw [Hid, Nat.mod_pow_succ, ← hx.out, hq2.out]
              clear HQ
              go_wp2
              go_round
              case rel => exact ⟨t + 1, x + 2 ^ t * (q % 2), by omega, by go_num, by rw [hos.out], hn⟩
              case measure => simp [intOf]; omega
        · obtain rfl : t = 8 := by omega
          have hxz : Hid (x = z.toNat) := by rw [Hid, hx.out]; exact Nat.mod_eq_of_lt z.toNat_lt
          have hl : Hid ((xorAll n0' ls).length = n0') := length_xorAll (fun l hl => hlen.out l hl) (by simp [zeros])
          clear hx
          go_wp2_with (at_builtin; refine wpList_apps _ rfl _ _ 27 rfl w.heap.size 5 (bV 0) 1 1 Try.underlying27 infoByte rfl (by decide) sByte _ ((xorAll n0' ls).take k) rfl (HOW.out.fr sByte (frAlloc _ _)) ⟨wo.heap.size, 0, none⟩ 1 1 [.int .u8 x] rfl rfl (cell_one_new _ _ _) ?c2 [z] rfl ?c3 ?c4 ?c5 ?c6 ?_)
          case c2 => first | rfl | (intro u hu; simp at hu; subst hu; rfl)
          case c3 =>
            intro i y hy
            obtain rfl : i = 0 := by have := (List.getElem?_eq_some_iff.1 hy).1; simp at this; omega
            obtain rfl : z = y := by simpa using hy
            show some (Value.int .u8 (x : Int)) = _
            rw [hxz.out]
          case c4 => have := hl.out; (try simp only [List.length_take]); unfold maxLen; omega
          case c5 => have := hl.out; (try simp only [List.length_take]); unfold lim; omega
          case c6 => have := HB.size; simp; omega
          · intro v' w1 hown' hg hge
            have R : Hid (Own 1 eByte w1 w.heap.size 5 v' ((xorAll n0' ls).take (k + 1))) := by rw [Hid, take_snoc' HZ.out]; exact hown'
            have HB' : Below w.heap.size w w1 := (HB.alloc HB.size _).grown hg (by have := HB.size; simp; omega) hge
            clear hown' hg hge
            go_wp2
            go_roundw
            case rel => exact ⟨k + 1, by omega, by go_num, R.out, HB'⟩
            case measure => simp [intOf]; omega
    · have R : Hid (Own 1 eByte wr w.heap.size 5 u3 (xorAll n0' ls)) := by
        have := HOW.out
        rw [List.take_of_length_le (by rw [show (xorAll n0' ls).length = n0' from length_xorAll (fun l hl => hlen.out l hl) (by simp [zeros])]; omega)] at this
        exact this
      go_wp2
      go_ret
      exact ⟨u3, rfl, R.out, HB⟩
end Go.Proofs.Ytnfjghldcopaaaa
namespace Go.Proofs.Ytnfjghldcopaaaa

/-- Block by block, added on. -/
def symTo (K : Nat) (bl : List (List UInt8)) (L : List Int) : List UInt8 := xorAll K (L.map fun k => bl.getD k.toNat [])
theorem sel_idx {bl : List (List UInt8)} {X : List Bool} (h : X.length = bl.length) : (selIdx X).map (fun k => bl.getD k.toNat []) = sel X bl := by
  have hz : X.zip bl = (List.range X.length).map fun k => (X.getD k false, bl.getD k []) := by
    apply List.ext_getElem?
    intro k
    by_cases hk : k < X.length
    · rw [List.getElem?_map, List.getElem?_range hk, show (X.zip bl)[k]? = some (X[k], bl[k]'(h ▸ hk)) from List.getElem?_zip_eq_some.2 ⟨List.getElem?_eq_getElem hk, List.getElem?_eq_getElem (h ▸ hk)⟩]
      simp [List.getD_eq_getElem?_getD, List.getElem?_eq_getElem hk, List.getElem?_eq_getElem (h ▸ hk : k < bl.length)]
    · rw [List.getElem?_eq_none (by simp; omega), List.getElem?_eq_none (by simp; omega)]
  unfold sel selIdx
  rw [hz, List.filter_map, List.map_map, List.map_map]
  rfl
theorem zx_zerosR {K : Nat} {a : List UInt8} (h : a.length = K) : zx (zeros K) a = a := by
  apply List.ext_getElem (by simp [zx, zeros, h])
  intro i h1 h2
  simp [zx, zeros]
theorem xorAll_two {K : Nat} {a b : List UInt8} (h : a.length = K) : xorAll K [a, b] = zx a b := by
  unfold xorAll
  simp only [List.foldl_cons, List.foldl_nil, zx_zerosR h]
theorem symTo_nil (K : Nat) (bl : List (List UInt8)) : symTo K bl [] = zeros K := rfl
theorem length_symTo {K : Nat} {bl : List (List UInt8)} {L : List Int} (h : ∀ k ∈ L, (bl.getD k.toNat []).length = K) : (symTo K bl L).length = K :=
  length_xorAll (fun l hl => by obtain ⟨k, hk, rfl⟩ := List.mem_map.1 hl; exact h k hk) (by simp [zeros])
theorem symTo_snoc {K : Nat} {bl : List (List UInt8)} {L : List Int} {k : Int} (h : ∀ k ∈ L, (bl.getD k.toNat []).length = K) : xorAll K [symTo K bl L, bl.getD k.toNat []] = symTo K bl (L ++ [k]) := by
  rw [xorAll_two (length_symTo h)]
  unfold symTo xorAll
  rw [List.map_append, List.foldl_append]; rfl
end Go.Proofs.Ytnfjghldcopaaaa
namespace Go.Proofs.Ytnfjghldcopaaaa
open Go.RowKit

theorem blocks_alt {B K : Int} (hB : 1 ≤ B) (hK : 1 ≤ K) : blocksOf B K = B / K + (if 0 < B % K then 1 else 0) := by
  have e : blocksOf B K = (B - 1) / K + 1 := by unfold blocksOf; rw [if_neg (by omega)]
  have h1 := Int.mul_ediv_add_emod B K
  have h2 := Int.emod_nonneg B (show K ≠ 0 by omega)
  have h3 := Int.emod_lt_of_pos B (show 0 < K by omega)
  rw [e]
  generalize B / K = q at *
  generalize B % K = r at *
  split
  · have : B - 1 = (r - 1) + K * q := by omega
    rw [this, Int.add_mul_ediv_left _ _ (by omega), Int.ediv_eq_zero_of_lt (by omega) (by omega)]; omega
  · have : B - 1 = (K - 1) + K * (q - 1) := by rw [Int.mul_sub]; omega
    rw [this, Int.add_mul_ediv_left _ _ (by omega), Int.ediv_eq_zero_of_lt (by omega) (by omega)]; omega

set_option maxHeartbeats 400000 in
theorem refBlocks_any (w : World) (B K : Int) (hB : wfI B) (hK : wfI K) :
    Calls Try.prog 82 #[.agg #[.int .i64 B, .int .i64 K]] w fun e w' => e = .returned (.int .i64 (blocksOf B K)) ∧ Fr w w' := by
  obtain ⟨hB1, hB2⟩ := hB.bd
  obtain ⟨hK1, hK2⟩ := hK.bd
  by_cases h1 : B < 1
  · have E : Hid (blocksOf B K = 0) := if_pos (.inr h1)
    clear hB1 hB2 hK1 hK2
    go_enter Try.func82, Try.ntmps82
    go_wp2
    go_ret
    exact ⟨retI E.out.symm, (by (repeat' (first | exact Below.refl _ _ | refine below_drewN ?_ _ | refine Below.drew ?_ | refine frA ?_ _ | refine Fr.trans ?_ Hf1.out)))⟩
  · by_cases h2 : K < 1
    · have E : Hid (blocksOf B K = 0) := if_pos (.inl h2)
      clear hB1 hB2 hK1 hK2
      go_enter Try.func82, Try.ntmps82
      go_wp2
      go_ret
      exact ⟨retI E.out.symm, (by (repeat' (first | exact Below.refl _ _ | refine below_drewN ?_ _ | refine Below.drew ?_ | refine frA ?_ _ | refine Fr.trans ?_ Hf1.out)))⟩
    · have E := Lib.hid (blocks_alt (B := B) (K := K) (by omega) (by omega))
      have h3 := Int.ediv_le_self K (show 0 ≤ B by omega)
      have h4 := Int.ediv_nonneg (show 0 ≤ B by omega) (show 0 ≤ K by omega)
      have h5 := Int.emod_lt_of_pos B (show 0 < K by omega)
      have h6 : 0 < B % K → B / K + 1 ≤ 9223372036854775807 := by
        intro h7
        have e1 := Int.mul_ediv_add_emod B K
        have e2 : 2 ≤ K := by omega
        have e3 : 2 * (B / K) ≤ K * (B / K) := Int.mul_le_mul_of_nonneg_right e2 h4
        generalize B / K = q at *
        generalize B % K = r at *
        generalize K * q = z at *
        omega
      by_cases h7 : 0 < B % K
      · have E2 := Lib.hid h7
        have h8 := h6 h7
        clear hB1 hK1 hK2 h5 h6
        go_enter Try.func82, Try.ntmps82
        go_wp2
        go_ret
        exact ⟨retI (by rw [E.out, if_pos E2.out]), (by (repeat' (first | exact Below.refl _ _ | refine below_drewN ?_ _ | refine Below.drew ?_ | refine frA ?_ _ | refine Fr.trans ?_ Hf1.out)))⟩
      · have E2 := Lib.hid h7
        clear hB1 hK1 hK2 h5 h6
        go_enter Try.func82, Try.ntmps82
        go_wp2
        go_ret
        exact ⟨retI (by rw [E.out, if_neg (Int.not_lt.2 E2.out)]; omega), (by (repeat' (first | exact Below.refl _ _ | refine below_drewN ?_ _ | refine Below.drew ?_ | refine frA ?_ _ | refine Fr.trans ?_ Hf1.out)))⟩

set_option maxHeartbeats 400000 in
theorem refCheckPlan_any (w : World) (B K : Int) (hB : wfI B) (hK : wfI K) :
    Calls Try.prog 80 #[.agg #[.int .i64 B, .int .i64 K]] w fun e w' => e = .returned (.int .i64 (cutCheck B K)) ∧ Fr w w' := by
  by_cases h : B < 1 ∨ 360 < B ∨ K < 1 ∨ 16 < K
  · have E : Hid (cutCheck B K = 3) := if_pos h
    by_cases h1 : 1 ≤ B ∧ B ≤ 360
    · have r1 := inR_t h1
      have r2 : inR K 1 16 = false := inR_f (by omega)
      clear h h1
      go_enter Try.func80, Try.ntmps80
      go_wp2_with (go_at_call 61; refine (in_any _ _ _ _).mono ?_; rintro e w' ⟨rfl, rfl⟩)
      go_ret
      exact ⟨retI E.out.symm, (by (repeat' (first | exact Below.refl _ _ | refine below_drewN ?_ _ | refine Below.drew ?_ | refine frA ?_ _ | refine Fr.trans ?_ Hf1.out)))⟩
    · have r1 : inR B 1 360 = false := inR_f h1
      clear h h1
      go_enter Try.func80, Try.ntmps80
      go_wp2_with (go_at_call 61; refine (in_any _ _ _ _).mono ?_; rintro e w' ⟨rfl, rfl⟩)
      go_ret
      exact ⟨retI E.out.symm, (by (repeat' (first | exact Below.refl _ _ | refine below_drewN ?_ _ | refine Below.drew ?_ | refine frA ?_ _ | refine Fr.trans ?_ Hf1.out)))⟩
  · have r1 : inR B 1 360 = true := inR_t (by omega)
    have r2 : inR K 1 16 = true := inR_t (by omega)
    have E : Hid (cutCheck B K = if 24 < blocksOf B K then 2 else 0) := if_neg h
    clear h
    by_cases h5 : 24 < blocksOf B K
    all_goals
      have E2 := Lib.hid h5
      go_enter Try.func80, Try.ntmps80
      go_wp2_with (first | (go_at_call 61; refine (in_any _ _ _ _).mono ?_; rintro e w' ⟨rfl, rfl⟩) | (go_at_call 82; refine (refBlocks_any _ _ _ hB hK).mono ?_; rintro e w1 ⟨rfl, hf1⟩; have Hf1 := Lib.hid hf1; clear hf1))
      go_ret
      exact ⟨retI (by rw [E.out]; simp [E2.out]), (by (repeat' (first | exact Below.refl _ _ | refine below_drewN ?_ _ | refine Below.drew ?_ | refine frA ?_ _ | refine Fr.trans ?_ Hf1.out)))⟩

/-- A block, as far as it is filled. -/
def fillTo (p : List UInt8) (k : Nat) : List UInt8 := p.take k ++ List.replicate (p.length - k) 0
theorem fillTo_zero (p : List UInt8) : fillTo p 0 = List.replicate p.length 0 := by simp [fillTo]
theorem fillTo_all (p : List UInt8) {k : Nat} (h : p.length ≤ k) : fillTo p k = p := by simp [fillTo, List.take_of_length_le h, Nat.sub_eq_zero_of_le h]
theorem length_fillTo (p : List UInt8) {k : Nat} (h : k ≤ p.length) : (fillTo p k).length = p.length := by simp [fillTo]; omega
theorem fillTo_get (p : List UInt8) {k : Nat} (h : k < p.length) : (fillTo p k)[k]? = some 0 := by
  unfold fillTo
  rw [List.getElem?_append_right (by rw [List.length_take]; omega), List.length_take, Nat.min_eq_left (by omega), Nat.sub_self]
  rw [List.getElem?_replicate, if_pos (by omega)]
theorem fillTo_set (p : List UInt8) {k : Nat} {x : UInt8} (h : p[k]? = some x) : (fillTo p k).set k x = fillTo p (k + 1) := by
  have hk := (List.getElem?_eq_some_iff.1 h).1
  unfold fillTo
  rw [List.set_append_right _ _ (by rw [List.length_take]; omega), List.length_take, Nat.min_eq_left (by omega), Nat.sub_self, take_snoc' h, List.append_assoc]
  obtain ⟨m, hm⟩ : ∃ m, p.length - k = m + 1 := ⟨p.length - k - 1, by omega⟩
  rw [hm, List.replicate_succ, List.set_cons_zero, show p.length - (k + 1) = m from by omega]; rfl
theorem fillTo_skip (p : List UInt8) {k : Nat} (h : p[k]? = some 0) : fillTo p k = fillTo p (k + 1) := by
  rw [← fillTo_set p h]
  apply List.ext_getElem?
  intro i
  by_cases hi : i = k
  · subst hi
    have hk := (List.getElem?_eq_some_iff.1 h).1
    rw [List.getElem?_set_self (by rw [length_fillTo p (by omega)]; exact hk), fillTo_get p hk]
  · rw [List.getElem?_set_ne (fun e => hi e.symm)]

/-- The blocks of a cargo, one by one. -/
theorem cutF_get {K : Nat} (hK : 1 ≤ K) : ∀ f c i, c.length ≤ f → i * K < c.length → (cutF K f c)[i]? = some (padTo K ((c.drop (i * K)).take K))
  | 0, c, i, h, hi => by omega
  | f + 1, c, 0, h, hi => by rw [cutF, if_neg (by omega)]; simp
  | f + 1, c, i + 1, h, hi => by
    rw [Nat.add_mul, Nat.one_mul] at hi
    rw [cutF, if_neg (by omega), List.getElem?_cons_succ, cutF_get hK f (c.drop K) i (by rw [List.length_drop]; omega) (by rw [List.length_drop]; omega), List.drop_drop, Nat.add_mul, Nat.one_mul, Nat.add_comm K]
theorem padTo_get {K k : Nat} {c : List UInt8} (h : k < K) (hc : c.length ≤ K) : (padTo K c)[k]? = some (c.getD k 0) := by
  unfold padTo
  by_cases hk : k < c.length
  · rw [List.getElem?_append_left hk, List.getElem?_eq_getElem hk]; simp [hk]
  · rw [List.getElem?_append_right (by omega), List.getElem?_replicate, if_pos (by omega)]; simp [List.getElem?_eq_none (show c.length ≤ k by omega)]
theorem cut_count {n K : Nat} {c : List UInt8} (hck : cutCheck n K = 0) (hl : c.length = n) {m : Nat} (hm : (m : Int) = blocksOf n K) : (cutF K n c).length = m ∧ ∀ i, i < m → i * K < n := by
  obtain ⟨⟨h1, h2⟩, ⟨h3, h4⟩, _, _, h5⟩ := cutCheck_ok hck
  have hK : 1 ≤ K := by omega
  have e : m = (n - 1) / K + 1 := by
    have : ((n : Int) - 1) / K = (((n - 1) / K : Nat) : Int) := by
      rw [show ((n : Int) - 1) = ((n - 1 : Nat) : Int) from by omega]; simp
    omega
  refine ⟨?_, fun i hi => ?_⟩
  · rw [cutF_length hK n c (by omega), hl, e, show n + K - 1 = (n - 1) + K from by omega, Nat.add_div_right _ (by omega)]
  · have : i ≤ (n - 1) / K := by omega
    have := (Nat.le_div_iff_mul_le (by omega)).1 this
    omega

set_option maxHeartbeats 2000000 in
theorem refCutUp_ok (w : World) (A : Option Addr) (n c K : Nat) (cargo : List UInt8) (h : Sl 1 eByte w (LT w.heap.size) A n cargo) (hck : cutCheck n K = 0) :
    Calls Try.prog 77 #[.agg #[.int .i64 n, .int .i64 K], .slice A n c] w fun e w' => ∃ v, e = .returned (.tuple #[v, .int .i64 0]) ∧ Own 1 eBlock w' w.heap.size 27 v (cutF K n cargo) ∧ Fr w w' := by
  obtain ⟨⟨h1, h2⟩, ⟨h3, h4⟩, h5, h6, _⟩ := cutCheck_ok hck
  have CC := Lib.hid (fun W : World => refCheckPlan_any W (n : Int) (K : Int) (wfI.mk (by omega)) (wfI.mk (by omega)))
  rw [hck] at CC
  have CB := Lib.hid (fun W : World => refBlocks_any W (n : Int) (K : Int) (wfI.mk (by omega)) (wfI.mk (by omega)))
  obtain ⟨m, hm⟩ : ∃ m : Nat, (m : Int) = blocksOf n K := ⟨(blocksOf n K).toNat, Int.toNat_of_nonneg (by omega)⟩
  rw [← hm] at CB
  have hn1 : 1 ≤ n ∧ n ≤ 360 := by omega
  have hK1 : 1 ≤ K ∧ K ≤ 16 := by omega
  obtain ⟨hn1, hn2⟩ := hn1
  obtain ⟨hK1, hK2⟩ := hK1
  have hm24 : m ≤ 24 := by omega
  obtain ⟨hc1, hc2⟩ := cut_count hck h.1 hm
  have hlen := h.1
  have hne : ((n : Int) != (n : Int)) = false := by simp
  have hmk := run_make_ca (P := Try.prog) bV 0 27 5 1 Try.underlying27 infoByte rfl .i64 .i64 K (by omega) (by omega)
  obtain ⟨ad, rfl, hE⟩ := h.els (by omega)
  clear h1 h2 h3 h4 h5 h6
  (have H := Lib.hid h; clear h; have Hck := Lib.hid hck; clear hck; have Hm := Lib.hid hm; clear hm; have Hc1 := Lib.hid hc1; clear hc1; have Hc2 := Lib.hid hc2; clear hc2; have Hlen := Lib.hid hlen; clear hlen)
  go_enter Try.func77, Try.ntmps77
  go_wp2_with fail
  refine (CC.out _).mono ?_
  rintro e w1 ⟨rfl, hf1⟩
  have hf0 : Fr w w1 := (frAlloc _ _).trans hf1
  obtain ⟨hb0, hb1⟩ := box2 hf1
  (have Hf1 := Lib.hid hf1; clear hf1; have Hf0 := Lib.hid hf0; clear hf0)
  go_wp2_with fail
  refine (CB.out _).mono ?_
  rintro e w2 ⟨rfl, hf2⟩
  have hb0 := (hf2.cell (World.block_lt_of_cell? w1 _ hb0)).trans hb0
  have hb1 := (hf2.cell (World.block_lt_of_cell? w1 _ hb1)).trans hb1
  have hf02 : Fr w w2 := Hf0.out.trans hf2
  clear hf2
  (have Hf02 := Lib.hid hf02; clear hf02)
  go_wp2_with fail
  go_loopw [7, 24] (fun v i wr => ∃ k : Nat, k ≤ m ∧ i = .int .i64 k ∧ Hid (Own 1 eBlock wr w2.heap.size 27 v ((cutF K n cargo).take k)) ∧ Hid (Fr w2 wr)) (fun _ i _ => m - (intOf i).toNat)
  case atStart => exact ⟨0, Nat.zero_le _, rfl, Own.nil, Below.refl _ _⟩
  case round =>
    obtain ⟨k, hk, rfl, HO, HF⟩ := hrel
    have hb0' : wr.cell? ⟨w.heap.size, 0, none⟩ = some (.int .i64 n) := (HF.out.cell (World.block_lt_of_cell? w2 _ hb0)).trans hb0
    have hb1' : wr.cell? ⟨w.heap.size, 1, none⟩ = some (.int .i64 K) := (HF.out.cell (World.block_lt_of_cell? w2 _ hb1)).trans hb1
    by_cases hlt : k < m
    · obtain ⟨p, hp⟩ : ∃ p, p = padTo K ((cargo.drop (k * K)).take K) := ⟨_, rfl⟩
      have hkK := Hc2.out k hlt
      have HPK : Hid ((cutF K n cargo)[k]? = some p) := by
        rw [Hid, hp]; exact cutF_get hK1 n cargo k (by have := Hlen.out; omega) (by have := Hlen.out; omega)
      have Hpl : Hid (p.length = K) := by rw [Hid, hp]; exact length_padTo (by rw [List.length_take]; omega)
      have Hpg : Hid (∀ j, j < K → p[j]? = some (cargo.getD (k * K + j) 0)) := by
        intro j hj
        rw [hp, padTo_get hj (by rw [List.length_take]; omega)]
        simp [List.getD, List.getElem?_take, hj, List.getElem?_drop]
      have hkK2 : k * K ≤ 360 := by omega
      obtain ⟨T, hT⟩ : ∃ T, T = k * K := ⟨_, rfl⟩
      rw [← hT] at Hpg hkK2
      have hw1 : wrap64 ((k : Int) * (K : Int)) = (T : Int) := by rw [← Int.natCast_mul, ← hT]; exact IntWalk.wrap64_in _ (by omega)
      clear hkK
      (have HT := Lib.hid hT; clear hT)
      have hhs := HF.out.size
      clear hp
      obtain ⟨wo, rfl⟩ : ∃ wo : World, wo = wr := ⟨_, rfl⟩
      go_wp2_with fail
      go_loopw [32] (fun j wr => ∃ q : Nat, q ≤ K ∧ j = .int .i64 q ∧ Hid (wr.heap[wo.heap.size]? = some (.cells (ca bV (fillTo p q)) 5 (0, 0))) ∧ Hid (Fr wo wr)) (fun j _ => K - (intOf j).toNat)
      case atStart => exact ⟨0, Nat.zero_le _, rfl, by rw [Hid, fillTo_zero, Hpl.out]; exact heap_new rfl, frAlloc _ _⟩
      case round =>
        obtain ⟨q, hq, rfl, HG, HQ⟩ := hrel
        have hb1'' : wr.cell? ⟨w.heap.size, 1, none⟩ = some (.int .i64 K) := (HQ.out.cell (World.block_lt_of_cell? wo _ hb1')).trans hb1'
        by_cases hql : q < K
        · have hpq := Hpg.out q hql
          by_cases hqn : T + q < n
          · obtain ⟨x, hx, hcx⟩ := hE.byte hqn
            have hcx2 : wr.cell? (ad.add (T + q)) = some (.int .u8 (x.toNat : Int)) := ((((Hf02.out.trans HF.out).trans HQ.out)).cell (p := ad.add (T + q)) (by rw [block_of_add]; exact hE.2.1)).trans hcx
            have hcg := ca_cell HG.out (fillTo_get p (show q < p.length by rw [Hpl.out]; exact hql))
            have hfg : wr.frozen? ⟨wo.heap.size, q, none⟩ = false := ca_free HG.out
            have R : Hid ((wr.setCell ⟨wo.heap.size, q, none⟩ (bV x)).heap[wo.heap.size]? = some (.cells (ca bV (fillTo p (q + 1))) 5 (0, 0))) := by
              rw [Hid, ← fillTo_set p (x := x) (by rw [hpq]; simp [hx])]
              exact ca_set HG.out
            have R2 : Hid (Fr wo (wr.setCell ⟨wo.heap.size, q, none⟩ (bV x))) := HQ.out.setCell (Nat.le_refl _) _
            have hqi : (T : Int) + (q : Int) < (n : Int) := by omega
            clear hx hcx hpq
            go_wp2_with fail
            go_roundw
            case rel => exact ⟨q + 1, by omega, by go_num, R, R2⟩
            case measure => simp [intOf]; omega
          · have R : Hid (wr.heap[wo.heap.size]? = some (.cells (ca bV (fillTo p (q + 1))) 5 (0, 0))) := by
              rw [Hid, ← fillTo_skip p]
              · exact HG.out
              · rw [hpq]; simp [List.getElem?_eq_none (show cargo.length ≤ T + q by have := Hlen.out; omega)]
            have hqi : ¬ (T : Int) + (q : Int) < (n : Int) := by omega
            clear hpq
            go_wp2_with fail
            go_roundw
            case rel => exact ⟨q + 1, by omega, by go_num, R, HQ⟩
            case measure => simp [intOf]; omega
        · obtain rfl : q = K := by omega
          have HP : Hid (wr.heap[wo.heap.size]? = some (.cells (ca bV p) 5 (0, 0))) := by rw [Hid, ← fillTo_all p (k := q) (by rw [Hpl.out]; exact Nat.le_refl _)]; exact HG.out
          have HOr : Hid (Own 1 eBlock wr w2.heap.size 27 u7 ((cutF q n cargo).take k)) := HO.out.fr wBlock HQ.out
          have HFr : Hid (Fr w2 wr) := HF.out.trans HQ.out
          have HY : Hid (eBlock wr (fun b => b < wr.heap.size ∧ u7.ownBlock ≠ some b) (fun j => [Value.slice (some ⟨wo.heap.size, 0, none⟩) q q][j]?) p) := by
            refine ⟨_, _, _, rfl, ⟨by unfold lim; omega, Nat.le_refl _, by unfold maxLen; omega⟩, ca_bytes HP.out ⟨ca_lt HP.out, fun e => ?_⟩ Hpl.out⟩
            obtain ⟨cs, ho, _⟩ := HO.out
            have := (ho.lt _ e).2
            omega
          have Hll : Hid (((cutF q n cargo).take k).length + 1 ≤ 25) := by rw [Hid, List.length_take]; omega
          have HT2 : Hid ((cutF q n cargo).take (k + 1) = (cutF q n cargo).take k ++ [p]) := take_snoc' HPK.out
          clear HG
          go_wp2_with (at_builtin; refine wpList_app1 rfl _ _ 35 rfl w2.heap.size 27 (.slice none 0 0) 24 Try.underlying35 infoBlock rfl (by decide) wBlock wr (frAlloc _ _) _ ((cutF q n cargo).take k) rfl HOr.out wr.heap.size [.slice (some ⟨wo.heap.size, 0, none⟩) q q] 27 (0, 0) rfl (heap_new rfl) rfl ?c1 p HY.out ?c2 ?c3 w2.heap.size w2 HFr.out (Nat.le_refl _) HFr.out.size ?_)
          case c1 => simp [Value.oneCell']
          case c2 => have := Hll.out; unfold maxLen; omega
          case c3 => have := Hll.out; unfold lim; omega
          intro v' w3 HO3 HF3
          rw [← HT2.out] at HO3
          go_wp2_with fail
          go_roundw
          case rel => exact ⟨k + 1, by omega, by go_num, HO3, HF3⟩
          case measure => simp [intOf]; omega
    · obtain rfl : k = m := by omega
      have HF5 : Hid (Own 1 eBlock wr w.heap.size 27 u7 (cutF K n cargo)) := by
        have := HO.out.lower (base' := w.heap.size) Hf02.out.size
        rw [List.take_of_length_le (by rw [Hc1.out]; exact Nat.le_refl _)] at this
        exact this
      go_wp2_with fail
      go_ret2
      exact ⟨u7, rfl, HF5.out, Hf02.out.trans HF.out⟩

set_option maxHeartbeats 400000 in
/-- What the reference's CutUp answers. -/
theorem refCutUp_any (w : World) (A : Option Addr) (n c : Nat) (B K : Int) (cargo : List UInt8) (h : Sl 1 eByte w (LT w.heap.size) A n cargo) (wB : wfI B) (wK : wfI K) :
    Calls Try.prog 77 #[.agg #[.int .i64 B, .int .i64 K], .slice A n c] w fun e w' => ∃ v, e = .returned (.tuple #[v, .int .i64 (cutUp B K cargo).2]) ∧ Own 1 eBlock w' w.heap.size 27 v (cutUp B K cargo).1 ∧ Fr w w' := by
  have hl := h.1
  by_cases hck : cutCheck B K = 0
  · by_cases hn : (n : Int) = B
    · subst hn
      obtain ⟨k, rfl⟩ := Int.eq_ofNat_of_zero_le (show 0 ≤ K by have := (cutCheck_ok hck).2.1; omega)
      have E : cutUp n k cargo = (cutF k n cargo, 0) := by
        unfold cutUp
        rw [if_neg (by simp [hck]), if_neg (by simp [hl]), hl]
        rfl
      rw [E]
      exact refCutUp_ok w A n c k cargo h hck
    · have E : Hid (cutUp B K cargo = ([], 4)) := by
        unfold cutUp Hid
        rw [if_neg (by simp [hck]), if_pos (by rw [hl]; exact hn)]
      have CC := Lib.hid (fun W : World => refCheckPlan_any W B K wB wK)
      rw [hck] at CC
      have hne : ((n : Int) != B) = true := by rw [bne_iff_ne]; exact hn
      clear hck hn hl h
      go_enter Try.func77, Try.ntmps77
      go_wp2_with fail
      refine (CC.out _).mono ?_
      rintro e w1 ⟨rfl, hf1⟩
      have hf0 : Fr w w1 := (frAlloc _ _).trans hf1
      obtain ⟨hb0, hb1⟩ := box2 hf1
      (have Hf1 := Lib.hid hf1; clear hf1; have Hf0 := Lib.hid hf0; clear hf0)
      go_wp2_with fail
      go_ret2
      rw [E.out]
      exact ⟨_, rfl, Own.nil, Hf0.out⟩
  · have E : Hid (cutUp B K cargo = ([], cutCheck B K)) := if_pos hck
    have CC := Lib.hid (fun W : World => refCheckPlan_any W B K wB wK)
    have hne : (cutCheck B K != 0) = true := by rw [bne_iff_ne]; exact hck
    clear hck hl h
    go_enter Try.func77, Try.ntmps77
    go_wp2_with fail
    refine (CC.out _).mono ?_
    rintro e w1 ⟨rfl, hf1⟩
    have hf0 : Fr w w1 := (frAlloc _ _).trans hf1
    obtain ⟨hb0, hb1⟩ := box2 hf1
    (have Hf1 := Lib.hid hf1; clear hf1; have Hf0 := Lib.hid hf0; clear hf0)
    go_wp2_with fail
    go_ret2
    rw [E.out]
    exact ⟨_, rfl, Own.nil, Hf0.out⟩

set_option maxHeartbeats 2000000 in
theorem refJoined_body (w : World) (A : Option Addr) (n c B K : Nat) (ls : List (List UInt8)) (h : Sl 1 eBlock w (LT w.heap.size) A n ls) (hck : cutCheck B K = 0) (hn : (n : Int) = blocksOf B K) (hs : lens ls ≤ lim) :
    Calls Try.prog 86 #[.agg #[.int .i64 B, .int .i64 K], .slice A n c] w fun e w' => ∃ A' n' c', e = .returned (.tuple #[.slice A' n' c', .int .i64 (joinUp B K ls).2]) ∧ n' ≤ 360 ∧ n' ≤ c' ∧ c' ≤ maxLen ∧ Sl 1 eByte w' (LT w'.heap.size) A' n' (joinUp B K ls).1 ∧ Fr w w' := by
  obtain ⟨⟨h1, h2⟩, ⟨h3, h4⟩, h5, h6, _⟩ := cutCheck_ok hck
  have CC := Lib.hid (fun W : World => refCheckPlan_any W (B : Int) (K : Int) (wfI.mk (by omega)) (wfI.mk (by omega)))
  rw [hck] at CC
  have CB := Lib.hid (fun W : World => refBlocks_any W (B : Int) (K : Int) (wfI.mk (by omega)) (wfI.mk (by omega)))
  rw [← hn] at CB
  have hlen := h.1
  obtain ⟨hm1, hm2⟩ := blocks_hold hck hn
  have hb : 1 ≤ B ∧ B ≤ 360 ∧ 1 ≤ K ∧ K ≤ 16 ∧ 1 ≤ n := by omega
  obtain ⟨hB1, hB2, hK1, hK2, hn1⟩ := hb
  have HN : Hid ((ls.length : Int) = blocksOf B K) := by rw [Hid, hlen]; exact hn
  have hne : ((n : Int) != (n : Int)) = false := by simp
  have hnl : n ≤ lim := by unfold lim; omega
  have hsl : lens ls * 1 ≤ lim := by rw [Nat.mul_one]; exact hs
  clear h1 h2 h3 h4 h5 h6 hn
  (have H := Lib.hid h; clear h; have Hck := Lib.hid hck; clear hck; have Hlen := Lib.hid hlen; clear hlen; have Hs := Lib.hid hs; clear hs; have Hsl := Lib.hid hsl; clear hsl; have Hnl := Lib.hid hnl; clear hnl)
  go_enter Try.func86, Try.ntmps86
  go_wp2_with fail
  refine (CC.out _).mono ?_
  rintro e w1 ⟨rfl, hf1⟩
  have hf0 : Fr w w1 := (frAlloc _ _).trans hf1
  obtain ⟨hb0, hb1⟩ := box2 hf1
  (have Hf1 := Lib.hid hf1; clear hf1; have Hf0 := Lib.hid hf0; clear hf0)
  go_wp2_with fail
  refine (CB.out _).mono ?_
  rintro e w2 ⟨rfl, hf2⟩
  have hb0 := (hf2.cell (World.block_lt_of_cell? w1 _ hb0)).trans hb0
  have hb1 := (hf2.cell (World.block_lt_of_cell? w1 _ hb1)).trans hb1
  have hs2 := H.out.go wBlock (Hf0.out.trans hf2)
  (have Hf2 := Lib.hid hf2; clear hf2; have Hs2 := Lib.hid hs2; clear hs2)
  go_wp2_with fail
  (with_reducible refine (concatBlock_any _ _ _ _ ls Hs2.out Hnl.out Hsl.out Hs.out).mono ?_)
  rintro e w3 ⟨v3, rfl, ho3, hf3⟩
  have hb0 := (hf3.cell (World.block_lt_of_cell? w2 _ hb0)).trans hb0
  have hb1 := (hf3.cell (World.block_lt_of_cell? w2 _ hb1)).trans hb1
  have hs3 := Hs2.out.go wBlock hf3
  have hF3 : Fr w w3 := ((Hf0.out.trans Hf2.out).trans hf3)
  obtain ⟨X, hX⟩ : ∃ X, X = ls.flatten := ⟨_, rfl⟩
  rw [← hX] at ho3
  obtain ⟨A3, c3, rfl, hc3, hsX⟩ := ho3.slC sByte (by decide)
  (have Hf3 := Lib.hid hf3; clear hf3; have Hs3 := Lib.hid hs3; clear hs3; have HF3 := Lib.hid hF3; clear hF3; have Ho3 := Lib.hid ho3; clear ho3; have HsX := Lib.hid hsX; clear hsX; have HX := Lib.hid hX; clear hX; have Hc3 := Lib.hid hc3; clear hc3)
  obtain ⟨ad, rfl, hE⟩ := Hs3.out.els (by omega)
  go_wp2_with fail
  go_loop [25] (fun i => ∃ k : Nat, k ≤ n ∧ i = .int .i64 k ∧ Hid (∀ b ∈ ls.take k, b.length = K)) (fun i => n - (intOf i).toNat)
  case atStart => exact ⟨0, Nat.zero_le _, rfl, by simp [Hid]⟩
  case round =>
    obtain ⟨k, hk, rfl, HL⟩ := hrel
    by_cases hlt : k < n
    · obtain ⟨A', n', c', l, hl, hcl, hm', hs⟩ := hE.block hlt
      by_cases hnK : n' = K
      · subst hnK
        have hne2 : ((n' : Int) != (n' : Int)) = false := by simp
        have HL' : Hid (∀ b ∈ ls.take (k + 1), b.length = n') := by
          intro b hb
          rw [take_snoc' hl] at hb
          rcases List.mem_append.1 hb with hb | hb
          · exact HL.out b hb
          · rw [List.mem_singleton.1 hb]; exact hs.1
        clear hl hs
        go_wp2_with fail
        go_round
        case rel => exact ⟨k + 1, by omega, by go_num, HL'⟩
        case measure => simp [intOf]; omega
      · have hne2 : ((n' : Int) != (K : Int)) = true := by rw [bne_iff_ne]; omega
        have E : Hid (joinUp B K ls = ([], 4)) := join_form Hck.out HN.out (List.mem_of_getElem? hl) (by rw [hs.1]; omega)
        clear hl hs hnK
        go_wp2_with fail
        go_ret2
        rw [E.out]
        exact ⟨none, 0, 0, rfl, by omega, by omega, by unfold maxLen; omega, Sl.nil, HF3.out⟩
    · obtain rfl : k = n := by omega
      have ht : Hid (ls.take k = ls) := List.take_of_length_le (by have := Hlen.out; omega)
      rw [ht.out] at HL
      have HHL : Hid (∀ b ∈ ls, (b.length : Int) = K) := fun b hb => by rw [HL.out b hb]
      obtain ⟨T, hT⟩ : ∃ T, T = X.length := ⟨_, rfl⟩
      have hkK : k * K ≤ 24 * 16 := Nat.mul_le_mul (by omega) hK2
      have hTk : T = k * K := by rw [hT, HX.out, length_flatten HL.out, Hlen.out]
      have hBT : B ≤ T := by omega
      have hT2 : T ≤ 384 := by omega
      rw [← hT] at HsX Hc3 ⊢
      obtain ⟨adX, rfl, hXE⟩ := HsX.out.els (by omega)
      have HPRE : Hid (Sl 1 eByte w3 (LT w3.heap.size) (some adX) B (X.take B)) := hXE.sl.pre hBT
      have hc3' : T ≤ c3 := Hc3.out.1
      have hc3'' : B ≤ c3 := by omega
      clear hTk
      (have HT := Lib.hid hT; clear hT)
      go_wp2_with fail
      go_loop [10] (fun i => ∃ j : Nat, B ≤ j ∧ j ≤ T ∧ i = .int .i64 j ∧ Hid (∀ x ∈ (X.drop B).take (j - B), x = 0)) (fun i => T - (intOf i).toNat)
      case atStart => exact ⟨B, Nat.le_refl _, hBT, rfl, by simp [Hid]⟩
      case round =>
        obtain ⟨j, hBj, hj, rfl, HZ⟩ := hrel
        by_cases hlt : j < T
        · obtain ⟨x, hx, hcx⟩ := hXE.byte hlt
          have hxd : (X.drop B)[j - B]? = some x := by rw [List.getElem?_drop, show B + (j - B) = j from by omega]; exact hx
          by_cases hx0 : x = 0
          · subst hx0
            have HZ' : Hid (∀ x ∈ (X.drop B).take (j + 1 - B), x = 0) := by
              intro y hy
              rw [show j + 1 - B = (j - B) + 1 from by omega, take_snoc' hxd] at hy
              rcases List.mem_append.1 hy with hy | hy
              · exact HZ.out y hy
              · exact List.mem_singleton.1 hy
            have hcx2 : w3.cell? (adX.add j) = some (.int .u8 0) := hcx
            clear hx hcx hxd
            go_wp2_with fail
            go_round
            case rel => exact ⟨j + 1, by omega, by omega, by go_num, HZ'⟩
            case measure => simp [intOf]; omega
          · have hxb : ((x.toNat : Int) != 0) = true := by
              rw [bne_iff_ne]; intro e; exact hx0 (UInt8.toNat_inj.1 (by simpa using e))
            have E : Hid (joinUp B K ls = ([], 4)) := join_behind Hck.out HN.out HHL.out (x := x) (i := j - B) (by rw [← HX.out]; exact hxd) hx0
            clear hx hx0 hxd
            go_wp2_with fail
            go_ret2
            rw [E.out]
            exact ⟨none, 0, 0, rfl, by omega, by omega, by unfold maxLen; omega, Sl.nil, HF3.out⟩
        · have E : Hid (joinUp B K ls = (X.take B, 0)) := by
            rw [HX.out]
            refine join_ok Hck.out HN.out HHL.out fun x hx => HZ.out x ?_
            rw [List.take_of_length_le (by rw [List.length_drop, ← HT.out]; omega), HX.out]
            exact hx
          go_wp2_with fail
          go_ret2
          rw [E.out]
          exact ⟨some adX, B, c3, rfl, hB2, hc3'', Hc3.out.2, HPRE.out, HF3.out⟩

set_option maxHeartbeats 400000 in
/-- What the reference's Joined answers. -/
theorem refJoined_any (w : World) (A : Option Addr) (n c : Nat) (B K : Int) (ls : List (List UInt8)) (h : Sl 1 eBlock w (LT w.heap.size) A n ls) (hs : lens ls ≤ lim) (wB : wfI B) (wK : wfI K) :
    Calls Try.prog 86 #[.agg #[.int .i64 B, .int .i64 K], .slice A n c] w fun e w' => ∃ A' n' c', e = .returned (.tuple #[.slice A' n' c', .int .i64 (joinUp B K ls).2]) ∧ n' ≤ 360 ∧ n' ≤ c' ∧ c' ≤ maxLen ∧ Sl 1 eByte w' (LT w'.heap.size) A' n' (joinUp B K ls).1 ∧ Fr w w' := by
  have hl := h.1
  by_cases hck : cutCheck B K = 0
  · obtain ⟨b, rfl⟩ := Int.eq_ofNat_of_zero_le (show 0 ≤ B by have := (cutCheck_ok hck).1; omega)
    obtain ⟨k, rfl⟩ := Int.eq_ofNat_of_zero_le (show 0 ≤ K by have := (cutCheck_ok hck).2.1; omega)
    by_cases hn : (n : Int) = blocksOf b k
    · exact refJoined_body w A n c b k ls h hck hn hs
    · have E : Hid (joinUp b k ls = ([], 8)) := join_short hck (by rw [hl]; exact hn)
      have CC := Lib.hid (fun W : World => refCheckPlan_any W b k wB wK)
      rw [hck] at CC
      have CB := Lib.hid (fun W : World => refBlocks_any W b k wB wK)
      obtain ⟨q, hq⟩ : ∃ q, q = blocksOf b k := ⟨_, rfl⟩
      rw [← hq] at hn CB
      have hne : ((n : Int) != q) = true := by rw [bne_iff_ne]; exact hn
      clear hck hn hl h hq
      go_enter Try.func86, Try.ntmps86
      go_wp2_with fail
      refine (CC.out _).mono ?_
      rintro e w1 ⟨rfl, hf1⟩
      have hf0 : Fr w w1 := (frAlloc _ _).trans hf1
      obtain ⟨hb0, hb1⟩ := box2 hf1
      (have Hf1 := Lib.hid hf1; clear hf1; have Hf0 := Lib.hid hf0; clear hf0)
      go_wp2_with fail
      refine (CB.out _).mono ?_
      rintro e w2 ⟨rfl, hf2⟩
      (have Hf2 := Lib.hid hf2; clear hf2)
      go_wp2_with fail
      go_ret2
      rw [E.out]
      exact ⟨none, 0, 0, rfl, by omega, by omega, by unfold maxLen; omega, Sl.nil, by (repeat' (first | exact Below.refl _ _ | refine below_drewN ?_ _ | refine Below.drew ?_ | refine frA ?_ _ | refine Fr.trans ?_ Hf2.out | refine Fr.trans ?_ Hf0.out))⟩
  · have E : Hid (joinUp B K ls = ([], cutCheck B K)) := join_err hck
    have CC := Lib.hid (fun W : World => refCheckPlan_any W B K wB wK)
    have hne : (cutCheck B K != 0) = true := by rw [bne_iff_ne]; exact hck
    clear hck hl h
    go_enter Try.func86, Try.ntmps86
    go_wp2_with fail
    refine (CC.out _).mono ?_
    rintro e w1 ⟨rfl, hf1⟩
    have hf0 : Fr w w1 := (frAlloc _ _).trans hf1
    (have Hf1 := Lib.hid hf1; clear hf1; have Hf0 := Lib.hid hf0; clear hf0)
    go_wp2_with fail
    go_ret2
    rw [E.out]
    exact ⟨none, 0, 0, rfl, by omega, by omega, by unfold maxLen; omega, Sl.nil, Hf0.out⟩
end Go.Proofs.Ytnfjghldcopaaaa
namespace Go.Proofs.Ytnfjghldcopaaaa
open Go.RowKit
attribute [local irreducible] wpList

theorem blk_l {w : World} {b : Nat} {o : Obj} (h : w.heap[b]? = some o) : b < w.heap.size := (Array.getElem?_eq_some_iff.1 h).1
/-- Two blocks, laid in one row. -/
theorem Sl.two {w : World} {b : Nat} {t : TypeId} {fr : Nat × Nat} {S : Nat → Prop} {A B : Option Addr} {m c n d : Nat} {x y : List UInt8}
    (hb : w.heap[b]? = some (.cells #[.slice A m c, .slice B n d] t fr)) (hS : S b) (hm : m ≤ lim ∧ m ≤ c ∧ c ≤ maxLen) (hn : n ≤ lim ∧ n ≤ d ∧ d ≤ maxLen) (hx : Sl 1 eByte w S A m x) (hy : Sl 1 eByte w S B n y) : Sl 1 eBlock w S (some ⟨b, 0, none⟩) 2 [x, y] :=
  .lit hb hS rfl fun i z hz => by
    match i, hz with
    | 0, hz => obtain rfl : x = z := by simpa using hz
               exact ⟨A, m, c, by simp, ⟨by omega, hm.2⟩, hx⟩
    | 1, hz => obtain rfl : y = z := by simpa using hz
               exact ⟨B, n, d, by simp, ⟨by omega, hn.2⟩, hy⟩
    | i + 2, hz => simp at hz
/-- Bytes of the call's own lie in new blocks. -/
theorem Own.nwBytes {w : World} {base : Nat} {e : TypeId} {v : Value} {l : List UInt8} (h : Own 1 eByte w base e v l) : ∃ A c, v = .slice A l.length c ∧ (l.length ≤ c ∧ c ≤ maxLen) ∧ Sl 1 eByte w (NW base w.heap.size) A l.length l := by
  obtain ⟨A, c, rfl, hc, hs⟩ := h.slC sByte (by decide)
  refine ⟨A, c, rfl, hc, hs.1, fun hn => ?_⟩
  obtain ⟨ad, rfl, hb, hx⟩ := hs.2 hn
  refine ⟨ad, rfl, ⟨?_, hb⟩, hx⟩
  obtain ⟨cs, ho, _⟩ := h
  exact (ho.lt ad.block rfl).1

set_option maxRecDepth 100000 in
set_option maxHeartbeats 2000000 in
theorem refSym_ok (w : World) (A : Option Addr) (n c K : Nat) (cargo : List UInt8) (id : Int) (h : Sl 1 eByte w (LT w.heap.size) A n cargo) (hck : cutCheck n K = 0) (hid : 0 ≤ id ∧ id ≤ 9999) :
    Calls Try.prog 44 #[.agg #[.int .i64 n, .int .i64 K], .slice A n c, .int .i64 id] w fun e w' => ∃ A' n' c', e = .returned (.tuple #[.agg #[.int .i64 id, .slice A' n' c'], .int .i64 0]) ∧ (n' ≤ 16 ∧ n' ≤ c' ∧ c' ≤ maxLen) ∧ Sl 1 eByte w' (LT w'.heap.size) A' n' (makeSym n K cargo id).1.2 ∧ Fr w w' := by
  have hl := h.1
  obtain ⟨⟨b1, b2⟩, ⟨b3, b4⟩, _⟩ := cutCheck_ok hck
  have hb : 1 ≤ n ∧ n ≤ 360 ∧ 1 ≤ K ∧ K ≤ 16 := by omega
  obtain ⟨b1, b2, b3, b4⟩ := hb
  obtain ⟨q1, q2, _⟩ := cutF_count hck hl
  have hall := cutF_all (K := K) (by omega) n cargo
  obtain ⟨X, hX⟩ : ∃ X, X = cutF K n cargo := ⟨_, rfl⟩
  have E1 : Hid (cutUp n K cargo = (X, 0)) := by rw [hX]; exact cutUp_ok hck hl
  rw [← hX] at hall q1 q2
  obtain ⟨Y, hY⟩ : ∃ Y, Y = pickHas id.toNat X.length := ⟨_, rfl⟩
  have hYl : Y.length = X.length := by rw [hY]; exact length_pickHas _ _
  have E2 : Hid (pickedR id (X.length : Nat) = (selIdx Y, 0)) := by
    rw [Hid, hY]; unfold pickedR
    rw [if_pos (by omega), Int.toNat_natCast]
  have E4 : Hid ((makeSym n K cargo id).1.2 = symTo K X (selIdx Y)) := by
    rw [Hid, makeSym_ok hck hl hid, ← hX, ← hY]
    unfold symTo
    rw [sel_idx hYl]
  rw [E4.out]
  have hbd : Hid (∀ k ∈ selIdx Y, ∃ j : Nat, k = (j : Int) ∧ j < X.length) := fun k hk => by
    obtain ⟨j, e, hj⟩ := (Sel.idx Y).bd k hk
    exact ⟨j, e, by omega⟩
  have hget : Hid (∀ k ∈ selIdx Y, (X.getD k.toNat []).length = K) := fun k hk => by
    obtain ⟨j, rfl, hj⟩ := hbd.out k hk
    rw [Int.toNat_natCast, List.getD_eq_getElem?_getD, List.getElem?_eq_getElem hj]
    exact hall _ (List.getElem_mem hj)
  have hLl : Hid ((selIdx Y).length ≤ 24) := by
    have := (Sel.idx Y).length
    rw [Hid]; omega
  obtain ⟨L, hL⟩ : ∃ L, L = selIdx Y := ⟨_, rfl⟩
  rw [← hL] at E2 hbd hget hLl ⊢
  obtain ⟨nb, hnb⟩ : ∃ nb, X.length = nb := ⟨_, rfl⟩
  rw [hnb] at q1 q2 E2 hbd
  have HNB := Lib.hid hnb
  have hmk := run_make_ca (P := Try.prog) bV 0 27 5 1 Try.underlying27 infoByte rfl .i64 .i64 K (by omega) (by omega)
  clear hX hY hnb hYl hck hl hid hL hall
  (have H := Lib.hid h; clear h)
  go_enter Try.func44, Try.ntmps44
  go_wp2_with fail
  (with_reducible refine (refCutUp_any _ _ _ _ _ _ cargo (H.out.go sByte (by (repeat' (first | exact Below.refl _ _ | refine below_drewN ?_ _ | refine Below.drew ?_ | refine frA ?_ _ | refine Fr.trans ?_ Hf1.out)))) (wfI.mk (by omega)) (wfI.mk (by omega))).mono ?_)
  rw [E1.out]
  rintro e w1 ⟨v, rfl, ho, hf1⟩
  obtain ⟨B1, d1, rfl, ⟨hd1, hd2⟩, hs1⟩ := ho.slC wBlock (by decide)
  rw [HNB.out] at hs1 hd1 ⊢
  have hz := blk_go (heap_new (w := w.alloc (.cells #[.int .i64 n, .int .i64 K] 47)) (o := .cells #[.int .i64 0, .slice none 0 0] 53) rfl) hf1
  have hp := blk_go (heap_old (o := .cells #[.int .i64 0, .slice none 0 0] 53) (heap_new (w := w) (o := .cells #[.int .i64 n, .int .i64 K] 47) rfl)) hf1
  simp only [World.size_alloc] at hz
  have HF1 : Hid (Fr w w1) := Fr.trans ((frAlloc _ _).trans (frAlloc _ _)) hf1
  clear hf1
  (have Hz := Lib.hid hz; clear hz; have Hp := Lib.hid hp; clear hp; have Hs1 := Lib.hid hs1; clear hs1; have Ho := Lib.hid ho; clear ho)
  go_wp2_with fail
  (with_reducible refine (refPicked_any _ _ _).mono ?_)
  rw [E2.out]
  rintro e w2 ⟨B2, n2, d2, rfl, ⟨hn2, hx2⟩, hs2, hf2⟩
  obtain rfl : n2 = L.length := hs2.1.symm
  have hz2 := blk_go Hz.out hf2
  have hp2 := blk_go Hp.out hf2
  have hpl := blk_l hp2
  have hzl := blk_l hz2
  have hp20 := cell_of_heap (i := 1) hp2
  have hs1 := Hs1.out.go wBlock hf2
  have HF2 : Hid (Fr w w2) := HF1.out.trans hf2
  (have Hz2 := Lib.hid hz2; clear hz2; have Hp2 := Lib.hid hp2; clear hp2; have Hs2 := Lib.hid hs2; clear hs2; have Hs1 := Lib.hid hs1; clear hs1)
  clear hf2
  have hLl2 : L.length ≤ 24 := hLl.out
  go_wp2_with fail
  obtain ⟨p, hp⟩ : ∃ p, p = w2.heap.size + 1 := ⟨_, rfl⟩
  obtain ⟨W3, hW3⟩ : ∃ W3, W3 = w2.alloc (.cells (ca bV (List.replicate K 0)) 5) := ⟨_, rfl⟩
  have hz3 : W3.heap.size = p := by rw [hW3, hp]; simp
  have HF3 : Hid (Fr w2 W3) := by rw [hW3]; exact frAlloc _ _
  have HSZ : Hid (Sl 1 eByte W3 (fun b => b + 1 = p) (some ⟨w2.heap.size, 0, none⟩) K (symTo K X [])) := by
    rw [Hid, symTo_nil, hW3]
    exact ca_bytes (heap_new rfl) hp.symm (by simp [zeros])
  rw [← hW3, ← hp]
  have hpz : w.heap.size + 2 < p := by omega
  have HW3 : Hid (Fr w W3) := HF2.out.trans HF3.out
  have HZ3 := Lib.hid hz3
  have hpn : Hid ((W3.alloc (.cells #[.int .i64 id, .slice (some ⟨w2.heap.size, 0, none⟩) K K] 53)).heap[p]? = some (.cells #[.int .i64 id, .slice (some ⟨w2.heap.size, 0, none⟩) K K] 53 (0, 0))) := heap_new hz3.symm
  have hs2 := Hs2.out.go sInt HF3.out
  have hs1 := Hs1.out.go wBlock HF3.out
  have hz3 := blk_go Hz2.out HF3.out
  clear Hs1 Hs2 Hz2 Hp2 hp hW3 hmk hp20 hpl hzl
  (have Hs1 := Lib.hid hs1; clear hs1; have Hs2 := Lib.hid hs2; clear hs2; have Hz3 := Lib.hid hz3; clear hz3)
  go_loopw [42] (fun i wr => ∃ (j : Nat) (A5 : Option Addr) (c5 : Nat), j ≤ L.length ∧ i = .int .i64 j ∧ Hid (wr.heap[p]? = some (.cells #[.int .i64 id, .slice A5 K c5] 53 (0, 0))) ∧ (K ≤ c5 ∧ c5 ≤ maxLen) ∧ Hid (Sl 1 eByte wr (fun b => p ≤ b + 1 ∧ b < wr.heap.size ∧ b ≠ p) A5 K (symTo K X (L.take j))) ∧ Hid (Fr W3 wr)) (fun i _ => L.length - (intOf i).toNat)
  case atStart => exact ⟨0, _, _, Nat.zero_le _, rfl, hpn, ⟨Nat.le_refl _, by unfold maxLen; omega⟩, (HSZ.out.keep sByte fun q hq => (frAlloc W3 _).cell (by have := HZ3.out; have hq' : q.block + 1 = p := hq; omega)).more sByte fun b hb => by have := HZ3.out; have hb' : b + 1 = p := hb; simp; omega, frAlloc _ _⟩
  case round =>
    obtain ⟨j, A5, c5, hj, rfl, HP, ⟨hc5, hm5⟩, HS, HF⟩ := hrel
    by_cases hlt : j < L.length
    · obtain ⟨adl, rfl, hEl⟩ := Hs2.out.els (by omega)
      obtain ⟨k, hk, hck, _⟩ := hEl.int hlt
      obtain ⟨kk, rfl, hkn⟩ := hbd.out k (List.mem_of_getElem? hk)
      have hck2 : wr.cell? (adl.add j) = some (.int .i64 kk) := (HF.out.cell (p := adl.add j) (by rw [block_of_add]; exact hEl.2.1)).trans hck
      obtain ⟨adx, rfl, hEx⟩ := Hs1.out.els (by omega)
      obtain ⟨A', n', c', l, hl, hcl, hm', hcc, hcm', hsl⟩ := hEx.blockC hkn
      have hcw : wr.cell? (adx.add kk) = some (.slice A' n' c') := (HF.out.cell (p := adx.add kk) (by rw [block_of_add]; exact hEx.2.1)).trans hcl
      have hg : X.getD ((kk : Int)).toNat [] = l := by rw [Int.toNat_natCast, List.getD_eq_getElem?_getD, hl]; rfl
      have hlk : l.length = K := by rw [← hg]; exact hget.out _ (List.mem_of_getElem? hk)
      obtain rfl : n' = K := hsl.1.symm.trans hlk
      obtain ⟨cur, hcur⟩ : ∃ cur, cur = symTo n' X (L.take j) := ⟨_, rfl⟩
      obtain ⟨nxt, hnx⟩ : ∃ nxt, nxt = symTo n' X (L.take (j + 1)) := ⟨_, rfl⟩
      have hlc : cur.length = n' := by rw [hcur]; exact length_symTo fun k hk => hget.out k (List.mem_of_mem_take hk)
      have HSN : Hid (xorAll n' [cur, l] = nxt) := by
        rw [Hid, hcur, hnx, ← hg, symTo_snoc fun k hk => hget.out k (List.mem_of_mem_take hk), take_snoc' hk]
      have HNL : Hid (nxt.length = n') := by rw [Hid, hnx]; exact length_symTo fun k hk => hget.out k (List.mem_of_mem_take hk)
      have HSC : Hid (sumCheck [cur, l] = 0) := by
        unfold sumCheck Hid
        exact sumCheckFrom_of (by simp; omega) (by simp; omega) (by simp [hlc, hlk])
      have HD : Hid (n' = ([cur, l].headD []).length) := by simp [Hid, hlc]
      rw [← hcur] at HS
      have HX := Lib.hid (HS.out.more sByte (S' := LT wr.heap.size) fun b hb => hb.2.1)
      have HY := Lib.hid (hsl.go sByte HF.out)
      have HNX := Lib.hid hnx
      have hp0 := cell_of_heap (i := 0) HP.out
      have hp1 := cell_of_heap (i := 1) HP.out
      have hps : p < wr.heap.size := blk_l HP.out
      have h5a : n' ≤ lim ∧ n' ≤ c5 ∧ c5 ≤ maxLen := ⟨by unfold lim; omega, hc5, hm5⟩
      have h5b : n' ≤ lim ∧ n' ≤ c' ∧ c' ≤ maxLen := ⟨by unfold lim; omega, hcc, hcm'⟩
      have h2l : 2 ≤ lim := by unfold lim; omega
      have h02 : 0 < 2 := by omega
      (have H5a := Lib.hid h5a; clear h5a; have H5b := Lib.hid h5b; clear h5b; have H2l := Lib.hid h2l; clear h2l)
      clear hk hck hl hcl hsl hg hlk hcur hnx hlc hEl hEx HS
      go_wp2_with fail
      go_region_with (first
        | (go_at_call 78; (with_reducible refine (refSum_any _ _ 2 2 n' [cur, l] (Sl.two (by (repeat' (with_reducible (first | (refine heap_new ?_; (first | (simp; done) | rfl); done) | refine heap_dn ?_ | refine heap_d ?_ | refine heap_old ?_)))) (by simp [LT]) H5a.out H5b.out (HX.out.go sByte (by (repeat' (first | exact Below.refl _ _ | refine below_drewN ?_ _ | refine Below.drew ?_ | refine frA ?_ _)))) (HY.out.go sByte (by (repeat' (first | exact Below.refl _ _ | refine below_drewN ?_ _ | refine Below.drew ?_ | refine frA ?_ _))))) H2l.out HSC.out h02 HD.out).mono ?_); rintro e w5 ⟨v5, rfl, ho5, hf5⟩; rw [HSN.out] at ho5; have hb5 : w5.heap[p]? = some (.cells #[.int .i64 id, .slice A5 n' c5] 53 (0, 0)) := blk_go (by (repeat' (with_reducible (first | (refine heap_new ?_; (first | (simp; done) | rfl); done) | refine heap_dn ?_ | refine heap_d ?_ | refine heap_old ?_))); exact HP.out) hf5; obtain ⟨A6, c6, rfl, hc6, hs6⟩ := (ho5.lower (base' := p + 1) (by simp; omega)).nwBytes; rw [HNL.out] at hs6 hc6 ⊢; have HS6 := Lib.hid hs6; have HC6 := Lib.hid hc6; clear hs6 hc6; have HF5 : Hid (Fr wr w5) := Fr.trans (by (repeat' (first | exact Below.refl _ _ | refine below_drewN ?_ _ | refine Below.drew ?_ | refine frA ?_ _))) hf5; clear ho5 hf5; have q0 := cell_of_heap (i := 0) hb5; have q1 := cell_of_heap (i := 1) hb5; have q2 := blk_free (i := 1) hb5; have HB5 := Lib.hid hb5; clear hb5)
        | fail)
      all_goals
        have HB6 : Hid ((w5.setCell ⟨p, 1, none⟩ (.slice A6 n' c6)).heap[p]? = some (.cells #[.int .i64 id, .slice A6 n' c6] 53 (0, 0))) := by
          unfold Hid
          have := heap_setCell_same w5 p 1 _ _ (.slice A6 n' c6) HB5.out
          simpa using this
        have HS7 : Hid (Sl 1 eByte (w5.setCell ⟨p, 1, none⟩ (.slice A6 n' c6)) (fun b => p ≤ b + 1 ∧ b < (w5.setCell ⟨p, 1, none⟩ (.slice A6 n' c6)).heap.size ∧ b ≠ p) A6 n' nxt) :=
          (HS6.out.stored sByte (p := ⟨p, 1, none⟩) (by simp) _).more sByte fun b hb => by
            rw [size_setCell]
            exact ⟨by have := hb.1; omega, hb.2, by have := hb.1; omega⟩
        have HF7 : Hid (Fr W3 (w5.setCell ⟨p, 1, none⟩ (.slice A6 n' c6))) := (HF.out.trans HF5.out).setCell (by have := HZ3.out; simp; omega) _
        clear q0 q1 q2 HB5 HS6
        go_wp2_with fail
        go_roundw
        case rel => exact ⟨j + 1, A6, c6, by omega, by go_num, HB6, HC6.out, by rw [← HNX.out]; exact HS7, HF7⟩
        case measure => simp [intOf]; omega
    · obtain rfl : j = L.length := by omega
      rw [List.take_length] at HS
      have hp0 := cell_of_heap (i := 0) HP.out
      have hp1 := cell_of_heap (i := 1) HP.out
      have hps : p < wr.heap.size := blk_l HP.out
      have hzz := blk_go Hz3.out HF.out
      have z0 := cell_of_heap (i := 0) hzz
      have z1 := cell_of_heap (i := 1) hzz
      have zf0 := blk_free (i := 0) hzz
      have zf1 := blk_free (i := 1) hzz
      have hzl := blk_l hzz
      have HSF : Hid (Fr w wr) := HW3.out.trans HF.out
      have HSE : Hid (Sl 1 eByte ((wr.setCell ⟨w.heap.size + 1, 0, none⟩ (.int .i64 id)).setCell ⟨w.heap.size + 1, 1, none⟩ (.slice A5 K c5)) (LT wr.heap.size) A5 K (symTo K X L)) :=
        (HS.out.keep sByte fun q hq => by
          rw [World.cell?_setCell_other _ _ _ _ (fun e => by subst e; have := hq.1; simp at this; omega), World.cell?_setCell_other _ _ _ _ (fun e => by subst e; have := hq.1; simp at this; omega)]).more sByte fun b hb => hb.2.1
      clear hzz
      go_wp2_with fail
      refine bodyPost_ret (v := .tuple #[.agg #[.int .i64 id, .slice A5 K c5], .int .i64 0]) ?_ rfl ?_
      · simp [results, Try.results44, go_sem, z0, z1, hzl]
      · exact ⟨A5, K, c5, rfl, ⟨by omega, hc5, hm5⟩, by simpa [size_setCell] using HSE.out, (HSF.out.setCell (by simp) _).setCell (by simp) _⟩
end Go.Proofs.Ytnfjghldcopaaaa
namespace Go.Proofs.Ytnfjghldcopaaaa
open Go.RowKit
attribute [local irreducible] wpList

set_option maxRecDepth 100000 in
set_option maxHeartbeats 1000000 in
theorem refSym_any (w : World) (A : Option Addr) (n c : Nat) (B K : Int) (cargo : List UInt8) (id : Int) (h : Sl 1 eByte w (LT w.heap.size) A n cargo) (wB : wfI B) (wK : wfI K) :
    Calls Try.prog 44 #[.agg #[.int .i64 B, .int .i64 K], .slice A n c, .int .i64 id] w fun e w' => ∃ A' n' c', e = .returned (.tuple #[.agg #[.int .i64 (makeSym B K cargo id).1.1, .slice A' n' c'], .int .i64 (makeSym B K cargo id).2]) ∧ (n' ≤ 16 ∧ n' ≤ c' ∧ c' ≤ maxLen) ∧ Sl 1 eByte w' (LT w'.heap.size) A' n' (makeSym B K cargo id).1.2 ∧ Fr w w' := by
  by_cases hu : (cutUp B K cargo).2 = 0
  · obtain ⟨hck, hl⟩ := cutUp_err hu
    obtain ⟨b, rfl⟩ := Int.eq_ofNat_of_zero_le (show 0 ≤ B by omega)
    obtain ⟨k, rfl⟩ := Int.eq_ofNat_of_zero_le (show 0 ≤ K by have := (cutCheck_ok hck).2.1; omega)
    have hl2 : cargo.length = b := by omega
    obtain rfl : n = b := h.1.symm.trans hl2
    by_cases hid : 0 ≤ id ∧ id ≤ 9999
    · have E := makeSym_ok (id := id) hck hl2 hid
      have e1 : (makeSym n k cargo id).1.1 = id := by rw [E]
      have e2 : (makeSym n k cargo id).2 = 0 := by rw [E]
      rw [e1, e2]
      exact refSym_ok w A n c k cargo id h hck hid
    · have E : Hid (makeSym n k cargo id = ((0, []), 3)) := makeSym_err2 hck hl2 hid
      obtain ⟨q1, q2, _⟩ := cutF_count hck hl2
      have E1 : Hid (cutUp n k cargo = (cutF k n cargo, 0)) := cutUp_ok hck hl2
      obtain ⟨X, hX⟩ : ∃ X, X = cutF k n cargo := ⟨_, rfl⟩
      rw [← hX] at E1 q1 q2
      have E2 : Hid (pickedR id (X.length : Nat) = ([], 3)) := by
        unfold pickedR Hid
        rw [if_neg (by omega)]
      rw [E.out]
      clear hX hu hck hl hl2
      (have H := Lib.hid h; clear h; have Hid := Lib.hid hid; clear hid)
      go_enter Try.func44, Try.ntmps44
      go_wp2_with fail
      (with_reducible refine (refCutUp_any _ _ _ _ _ _ cargo (H.out.go sByte (by (repeat' (first | exact Below.refl _ _ | refine below_drewN ?_ _ | refine Below.drew ?_ | refine frA ?_ _ | refine Fr.trans ?_ Hf1.out)))) wB wK).mono ?_)
      rw [E1.out]
      rintro e w1 ⟨v, rfl, ho, hf1⟩
      obtain ⟨B1, d1, rfl, ⟨hd1, hd2⟩, hs1⟩ := ho.slC wBlock (by decide)
      have hz := blk_go (heap_new (w := w.alloc (.cells #[.int .i64 n, .int .i64 k] 47)) (o := .cells #[.int .i64 0, .slice none 0 0] 53) rfl) hf1
      simp only [World.size_alloc] at hz
      (have Hz := Lib.hid hz; clear hz; have Hf1 := Lib.hid hf1; clear hf1; have Hs1 := Lib.hid hs1; clear hs1; have Ho := Lib.hid ho; clear ho)
      go_wp2_with fail
      (with_reducible refine (refPicked_any _ _ _).mono ?_)
      rw [E2.out]
      rintro e w2 ⟨B2, n2, d2, rfl, hn2, hs2, hf2⟩
      have hz2 := blk_go Hz.out hf2
      have z0 := cell_of_heap (i := 0) hz2
      have z1 := cell_of_heap (i := 1) hz2
      have zf0 := blk_free (i := 0) hz2
      have zf1 := blk_free (i := 1) hz2
      (have Hz2 := Lib.hid hz2; clear hz2; have Hs2 := Lib.hid hs2; clear hs2; have Hf2 := Lib.hid hf2; clear hf2)
      go_wp2_with fail
      refine bodyPost_ret (v := .tuple #[.agg #[.int .i64 0, .slice none 0 0], .int .i64 3]) ?_ rfl ?_
      · simp [results, Try.results44, go_sem, z0, z1]
      · have h0 : Fr w w2 := by (repeat' (first | exact Below.refl _ _ | refine below_drewN ?_ _ | refine Below.drew ?_ | refine frA ?_ _ | refine Fr.trans ?_ Hf2.out | refine Fr.trans ?_ Hf1.out))
        exact ⟨none, 0, 0, rfl, ⟨by omega, by omega, by unfold maxLen; omega⟩, Sl.nil, (h0.setCell (by simp) _).setCell (by simp) _⟩
  · have hne : ((cutUp B K cargo).2 != 0) = true := by rw [bne_iff_ne]; exact hu
    have E : Hid (makeSym B K cargo id = ((0, []), (cutUp B K cargo).2)) := makeSym_err1 hu
    rw [E.out]
    clear hu
    (have H := Lib.hid h; clear h)
    go_enter Try.func44, Try.ntmps44
    go_wp2_with fail
    (with_reducible refine (refCutUp_any _ _ _ _ _ _ cargo (H.out.go sByte (by (repeat' (first | exact Below.refl _ _ | refine below_drewN ?_ _ | refine Below.drew ?_ | refine frA ?_ _ | refine Fr.trans ?_ Hf1.out)))) wB wK).mono ?_)
    rintro e w1 ⟨v, rfl, ho, hf1⟩
    have hz := blk_go (heap_new (w := w.alloc (.cells #[.int .i64 B, .int .i64 K] 47)) (o := .cells #[.int .i64 0, .slice none 0 0] 53) rfl) hf1
    simp only [World.size_alloc] at hz
    have z0 := cell_of_heap (i := 0) hz
    have z1 := cell_of_heap (i := 1) hz
    have zf0 := blk_free (i := 0) hz
    have zf1 := blk_free (i := 1) hz
    (have Hz := Lib.hid hz; clear hz; have Hf1 := Lib.hid hf1; clear hf1; have Ho := Lib.hid ho; clear ho)
    go_wp2_with fail
    refine bodyPost_ret (v := .tuple #[.agg #[.int .i64 0, .slice none 0 0], .int .i64 (cutUp B K cargo).2]) ?_ rfl ?_
    · simp [results, Try.results44, go_sem, z0, z1]
    · have h0 : Fr w w1 := by (repeat' (first | exact Below.refl _ _ | refine below_drewN ?_ _ | refine Below.drew ?_ | refine frA ?_ _ | refine Fr.trans ?_ Hf1.out))
      exact ⟨none, 0, 0, rfl, ⟨by omega, by omega, by unfold maxLen; omega⟩, Sl.nil, (h0.setCell (by simp) _).setCell (by simp) _⟩

set_option maxHeartbeats 1000000 in
theorem refCheckSym_any (w : World) (B K id : Int) (A : Option Addr) (n c : Nat) (wB : wfI B) (wK : wfI K) :
    Calls Try.prog 47 #[.agg #[.int .i64 B, .int .i64 K], .agg #[.int .i64 id, .slice A n c]] w fun e w' => e = .returned (.int .i64 (codeCheck B K id n)) ∧ Fr w w' := by
  have CC := Lib.hid (fun W : World => refCheckPlan_any W B K wB wK)
  by_cases hck : cutCheck B K = 0
  · rw [hck] at CC
    have E : Hid (codeCheck B K id n = if id < 0 ∨ 9999 < id then 3 else if (n : Int) ≠ K then 4 else 0) := by unfold codeCheck Hid; rw [if_neg (by simp [hck])]
    clear hck
    by_cases h1 : id < 0 ∨ 9999 < id
    · have E1 : Hid (codeCheck B K id n = 3) := by rw [Hid, E.out, if_pos h1]
      have r1 : inR id 0 9999 = false := inR_f (by omega)
      clear h1
      go_enter Try.func47, Try.ntmps47
      go_wp2_with fail
      (with_reducible refine (CC.out _).mono ?_)
      rintro e w1 ⟨rfl, hf1⟩
      have hz := blk_go (heap_new (w := w.alloc (.cells #[.int .i64 B, .int .i64 K] 47)) (o := .cells #[.int .i64 id, .slice A n c] 53) rfl) hf1
      have hp := blk_go (heap_old (o := .cells #[.int .i64 id, .slice A n c] 53) (heap_new (w := w) (o := .cells #[.int .i64 B, .int .i64 K] 47) rfl)) hf1
      simp only [World.size_alloc] at hz
      have z0 := cell_of_heap (i := 0) hz
      have z1 := cell_of_heap (i := 1) hz
      have p1 := cell_of_heap (i := 1) hp
      (have Hz := Lib.hid hz; clear hz; have Hp := Lib.hid hp; clear hp; have Hf1 := Lib.hid hf1; clear hf1)
      go_wp2_with (go_at_call 61; refine (in_any _ _ _ _).mono ?_; rintro e w' ⟨rfl, rfl⟩)
      go_ret
      exact ⟨retI E1.out.symm, (by (repeat' (first | exact Below.refl _ _ | refine below_drewN ?_ _ | refine Below.drew ?_ | refine frA ?_ _ | refine Fr.trans ?_ Hf1.out)))⟩
    · have r1 : inR id 0 9999 = true := inR_t (by omega)
      by_cases h3 : (n : Int) = K
      · have E1 : Hid (codeCheck B K id n = 0) := by rw [Hid, E.out, if_neg (by omega), if_neg (by simp [h3])]
        have hne : ((n : Int) != K) = false := by rw [h3]; simp
        clear h3 h1
        go_enter Try.func47, Try.ntmps47
        go_wp2_with fail
        (with_reducible refine (CC.out _).mono ?_)
        rintro e w1 ⟨rfl, hf1⟩
        have hz := blk_go (heap_new (w := w.alloc (.cells #[.int .i64 B, .int .i64 K] 47)) (o := .cells #[.int .i64 id, .slice A n c] 53) rfl) hf1
        have hp := blk_go (heap_old (o := .cells #[.int .i64 id, .slice A n c] 53) (heap_new (w := w) (o := .cells #[.int .i64 B, .int .i64 K] 47) rfl)) hf1
        simp only [World.size_alloc] at hz
        have z0 := cell_of_heap (i := 0) hz
        have z1 := cell_of_heap (i := 1) hz
        have p1 := cell_of_heap (i := 1) hp
        (have Hz := Lib.hid hz; clear hz; have Hp := Lib.hid hp; clear hp; have Hf1 := Lib.hid hf1; clear hf1)
        go_wp2_with (go_at_call 61; refine (in_any _ _ _ _).mono ?_; rintro e w' ⟨rfl, rfl⟩)
        go_ret
        exact ⟨retI E1.out.symm, (by (repeat' (first | exact Below.refl _ _ | refine below_drewN ?_ _ | refine Below.drew ?_ | refine frA ?_ _ | refine Fr.trans ?_ Hf1.out)))⟩
      · have E1 : Hid (codeCheck B K id n = 4) := by rw [Hid, E.out, if_neg (by omega), if_pos h3]
        have hne : ((n : Int) != K) = true := by rw [bne_iff_ne]; exact h3
        clear h3 h1
        go_enter Try.func47, Try.ntmps47
        go_wp2_with fail
        (with_reducible refine (CC.out _).mono ?_)
        rintro e w1 ⟨rfl, hf1⟩
        have hz := blk_go (heap_new (w := w.alloc (.cells #[.int .i64 B, .int .i64 K] 47)) (o := .cells #[.int .i64 id, .slice A n c] 53) rfl) hf1
        have hp := blk_go (heap_old (o := .cells #[.int .i64 id, .slice A n c] 53) (heap_new (w := w) (o := .cells #[.int .i64 B, .int .i64 K] 47) rfl)) hf1
        simp only [World.size_alloc] at hz
        have z0 := cell_of_heap (i := 0) hz
        have z1 := cell_of_heap (i := 1) hz
        have p1 := cell_of_heap (i := 1) hp
        (have Hz := Lib.hid hz; clear hz; have Hp := Lib.hid hp; clear hp; have Hf1 := Lib.hid hf1; clear hf1)
        go_wp2_with (go_at_call 61; refine (in_any _ _ _ _).mono ?_; rintro e w' ⟨rfl, rfl⟩)
        go_ret
        exact ⟨retI E1.out.symm, (by (repeat' (first | exact Below.refl _ _ | refine below_drewN ?_ _ | refine Below.drew ?_ | refine frA ?_ _ | refine Fr.trans ?_ Hf1.out)))⟩
  · have E1 : Hid (codeCheck B K id n = cutCheck B K) := if_pos hck
    have hne : (cutCheck B K != 0) = true := by rw [bne_iff_ne]; exact hck
    clear hck
    go_enter Try.func47, Try.ntmps47
    go_wp2_with fail
    (with_reducible refine (CC.out _).mono ?_)
    rintro e w1 ⟨rfl, hf1⟩
    have hz := blk_go (heap_new (w := w.alloc (.cells #[.int .i64 B, .int .i64 K] 47)) (o := .cells #[.int .i64 id, .slice A n c] 53) rfl) hf1
    have hp := blk_go (heap_old (o := .cells #[.int .i64 id, .slice A n c] 53) (heap_new (w := w) (o := .cells #[.int .i64 B, .int .i64 K] 47) rfl)) hf1
    simp only [World.size_alloc] at hz
    have z0 := cell_of_heap (i := 0) hz
    have z1 := cell_of_heap (i := 1) hz
    have p1 := cell_of_heap (i := 1) hp
    (have Hz := Lib.hid hz; clear hz; have Hp := Lib.hid hp; clear hp; have Hf1 := Lib.hid hf1; clear hf1)
    go_wp2_with (go_at_call 61; refine (in_any _ _ _ _).mono ?_; rintro e w' ⟨rfl, rfl⟩)
    go_ret
    exact ⟨retI E1.out.symm, (by (repeat' (first | exact Below.refl _ _ | refine below_drewN ?_ _ | refine Below.drew ?_ | refine frA ?_ _ | refine Fr.trans ?_ Hf1.out)))⟩
end Go.Proofs.Ytnfjghldcopaaaa
namespace Go.Proofs.Ytnfjghldcopaaaa
open Go.RowKit
attribute [local irreducible] wpList

set_option maxHeartbeats 400000 in
theorem cloneInts_any (w : World) (A : Option Addr) (n c : Nat) (l : List Int) (h : Sl 1 eInt w (LT w.heap.size) A n l) (hm : n * 8 ≤ lim) :
    Calls Try.prog 84 #[.slice A n c] w fun e w' => ∃ v, e = .returned v ∧ Own 1 eInt w' w.heap.size 3 v l ∧ Fr w w' := by
  have hm2 := hm
  unfold lim at hm2
  cases A with
  | none =>
    have hn : n = 0 := by
      rcases Nat.eq_zero_or_pos n with h0 | h0
      · exact h0
      · obtain ⟨ad, e, _⟩ := h.2 h0; cases e
    have hl : l = [] := List.eq_nil_of_length_eq_zero (by rw [h.1]; exact hn)
    subst hl
    subst hn
    have hnil := fun (W : World) => Lib.run_eql_slice_nil (P := Try.prog) W 48 _ Option.none 0 c 0 0 Try.underlying48
    clear h
    go_enter Try.func84, Try.ntmps84
    go_wp2_with fail
    go_ret
    exact ⟨_, rfl, Own.nil, Below.refl _ _⟩
  | some ad =>
    have hnil := fun (W : World) => Lib.run_eql_slice_nil (P := Try.prog) W 48 _ (some ad) n c 0 0 Try.underlying48
    simp only [Option.isNone_some] at hnil
    obtain ⟨cs, hcl, hcc, hc1, hcr⟩ : ∃ cs : List Value, cs.length = n * 1 ∧ (∀ j u, cs[j]? = some u → w.cell? (ad.add j) = some u ∧ ad.block < w.heap.size) ∧ (∀ u ∈ cs, u.oneCell' = true) ∧ ∀ i x, l[i]? = some x → eInt w (LT w.heap.size) (fun j => cs[i * 1 + j]?) x := by
      rcases Nat.eq_zero_or_pos n with h0 | h0
      · have hl : l = [] := List.eq_nil_of_length_eq_zero (by rw [h.1]; exact h0)
        exact ⟨[], by simp [h0], fun j u hu => by simp at hu, fun u hu => by simp at hu, fun i x hx => by simp [hl] at hx⟩
      · obtain ⟨ad', e, hE⟩ := h.els h0
        injection e with e
        subst e
        obtain ⟨cs, k1, k2, k3, k4⟩ := hE.cells fInt sInt (by decide)
        exact ⟨cs, k1, fun j u hu => ⟨k2 j u hu, hE.2.1⟩, k3, k4⟩
    have hll := h.1
    (have H := Lib.hid h; clear h; have Hcl := Lib.hid hcl; clear hcl; have Hcc := Lib.hid hcc; clear hcc; have Hc1 := Lib.hid hc1; clear hc1; have Hcr := Lib.hid hcr; clear hcr; have Hll := Lib.hid hll; clear hll)
    go_enter Try.func84, Try.ntmps84
    go_wp2_with (at_builtin; refine wpList_apps _ rfl _ _ 48 rfl w.heap.size 3 _ _ _ Try.underlying48 infoInt rfl (by decide) sInt _ ([] : List Int) rfl (Own.empty (Nat.le_refl _)) ad n c cs rfl Hcl.out ?c1 Hc1.out l Hll.out ?c3 ?c4 ?c5 ?c6 ?_)
    case c1 => intro j u hu; obtain ⟨k1, k2⟩ := Hcc.out j u hu; exact ((frAlloc w _).cell (by rw [block_of_add]; exact k2)).trans k1
    case c3 =>
      intro i x hx
      refine (sInt).more (S := LT w.heap.size) (fun b hb => ?_) ((sInt).keep (fun p hp => (frAlloc w _).cell hp) (Hcr.out i x hx))
      have hb' : b < w.heap.size := hb
      refine ⟨by simp; omega, ?_⟩
      intro e
      have e2 : some w.heap.size = some b := e
      have : w.heap.size = b := by injection e2
      omega
    case c4 => unfold maxLen; simp; omega
    case c5 => unfold lim; simp; omega
    case c6 => simp
    · intro v' w1 hown hg hge
      have HO : Hid (Own 1 eInt w1 w.heap.size 3 v' l) := hown
      have HF : Hid (Fr w w1) := (frAlloc w _).grown hg (by simp) hge
      clear hown hg hge
      go_wp2_with fail
      go_ret
      exact ⟨v', rfl, HO.out, HF.out⟩

/-- The function value that tells whether a block is known. -/
theorem isKnown_any (W : World) (kb g b K : Nat) (S : Nat → Prop) (kn : Kn) (HB : W.heap[kb]? = some (.cells #[.slice (some ⟨g, 0, none⟩) b b] 35 (0, 0))) (HK : KnM K W S g kn) (hl : kn.length = b) (k : Nat) (hk : k < b) (hb : b ≤ 24) :
    Calls Try.prog 85 #[.int .i64 k, .pointer (some ⟨kb, 0, none⟩)] W fun e w' => e = .returned (.bool (kn.isK k)) ∧ W = w' := by
  obtain ⟨xo, v, hxo, hcv, hkv⟩ := HK.get (i := k) (by omega)
  have x0 := box1_ HB
  rcases hkv with ⟨rfl, rfl⟩ | ⟨l, ad, c, rfl, rfl, _, _⟩
  · have E : Hid (kn.isK k = false) := by unfold Kn.isK; rw [Hid, List.getD_eq_getElem?_getD, hxo]; rfl
    clear hxo HB HK hl
    go_enter Try.func85, Try.ntmps85
    go_wp2_with (refine wpList_nnil rfl (.tmp 7) 27 _ 5 rfl Try.underlying27 rfl false rfl ?_)
    go_ret
    exact ⟨retB E.out.symm, rfl⟩
  · have E : Hid (kn.isK k = true) := by unfold Kn.isK; rw [Hid, List.getD_eq_getElem?_getD, hxo]; rfl
    clear hxo HB HK hl
    go_enter Try.func85, Try.ntmps85
    go_wp2_with (refine wpList_nnil rfl (.tmp 7) 27 _ 5 rfl Try.underlying27 rfl true rfl ?_)
    go_ret
    exact ⟨retB E.out.symm, rfl⟩

/-- What reads as ints lies in no block of other cells. -/
theorem Sl.notBlk {w : World} {S : Nat → Prop} {A : Option Addr} {n u : Nat} {L : List Int} {cs : Array Value} {t : TypeId} {fr : Nat × Nat} (h : Sl 1 eInt w S A n L) (hu : w.heap[u]? = some (.cells cs t fr)) (hno : ∀ (i : Nat) (x : Int), cs[i]? ≠ some (Value.int .i64 x)) : Sl 1 eInt w (fun y => S y ∧ y ≠ u) A n L := by
  refine ⟨h.1, fun hn => ?_⟩
  obtain ⟨ad, e, hb, hc⟩ := h.2 hn
  refine ⟨ad, e, ⟨hb, fun e2 => ?_⟩, hc⟩
  have hl := h.1
  have h0 : w.cell? (ad.add (0 * 1 + 0)) = some (.int .i64 _) := (hc 0 _ (List.getElem?_eq_getElem (by omega))).1
  have h1 : (ad.add (0 * 1 + 0)).block = u := by rw [block_of_add]; exact e2
  generalize ad.add (0 * 1 + 0) = ad' at h0 h1
  unfold World.cell? at h0
  rw [h1, hu] at h0
  simp only at h0
  split at h0
  · cases h0
  · exact hno _ _ h0
theorem boolsNo {l : List Bool} : ∀ (i : Nat) (x : Int), (ca Value.bool l)[i]? ≠ some (Value.int .i64 x) := fun i x h => by
  simp [ca] at h

def moreN (v : Value) : Nat :=
  match v with
  | .bool true => 1
  | _ => 0

set_option maxRecDepth 100000 in
set_option maxHeartbeats 8000000 in
theorem refPeel_good (w : World) (B : Int) (K b : Nat) (A : Option Addr) (n c : Nat) (xs : List Sm) (h : Sl 2 eSm w (LT w.heap.size) A n xs) (hn : n ≤ 60) (hck : cutCheck B K = 0) (hb : blocksOf B K = b) :
    Calls Try.prog 50 #[.agg #[.int .i64 B, .int .i64 K], .slice A n c] w (PeelPost K w (peelKn B K xs)) := by
  obtain ⟨⟨c1, c2⟩, ⟨c3, c4⟩, c5, c6, c7⟩ := cutCheck_ok hck
  have hd60 : decide ((60 : Int) < (n : Int)) = false := by simp; omega
  have hd61 : decide (60 < n) = false := by simp; omega
  have hlen := h.1
  have D0 : Hid (peelKn B K xs = if symsErr B K xs ≠ 0 then ([], symsErr B K xs) else (peelF b xs, 0)) := by
    unfold peelKn Hid
    rw [if_neg (by simp [hck]), if_neg (by omega), hb, Int.toNat_natCast]
  have b1 : 1 ≤ b := by omega
  have b2 : b ≤ 24 := by omega
  have hK : 1 ≤ K ∧ K ≤ 16 := by omega
  have wB : wfI B := wfI.mk (by omega)
  have wK : wfI (K : Int) := wfI.mk (by omega)
  have CB : Hid (∀ W : World, Calls Try.prog 82 #[.agg #[.int .i64 B, .int .i64 K]] W fun e w' => e = .returned (.int .i64 (b : Int)) ∧ Fr W w') := fun W => by
    have := refBlocks_any W B K wB wK
    rw [hb] at this; exact this
  have hmk := run_make_ca (P := Try.prog) (id : Value → Value) (.slice none 0 0) 35 27 24 Try.underlying35 infoNB rfl .i64 .i64 b (by omega) (by omega)
  have hmk2 := run_make_ca (P := Try.prog) Value.bool false 25 4 1 Try.underlying25 infoBool rfl .i64 .i64 n (by omega) (by omega)
  have HCK := Lib.hid hck
  have HL := Lib.hid hlen
  (have H := Lib.hid h; clear h)
  clear hck hb hlen c1 c2 c3 c4 c5 c6 c7
  go_enter Try.func50, Try.ntmps50
  go_wp2_with fail
  (with_reducible refine (refCheckPlan_any _ _ _ wB wK).mono ?_)
  rw [HCK.out]
  rintro e v1 ⟨rfl, hf⟩
  have HP1 : Hid (v1.heap[w.heap.size]? = some (.cells #[.int .i64 B, .int .i64 K] 47 (0, 0))) := blk_go (by (repeat' (with_reducible (first | (refine heap_new ?_; (first | (simp; done) | rfl); done) | refine heap_dn ?_ | refine heap_d ?_ | refine heap_old ?_)))) hf
  have HF1 : Hid (Fr w v1) := Fr.trans (by (repeat' (first | exact Below.refl _ _ | refine below_drewN ?_ _ | refine Below.drew ?_ | refine frA ?_ _))) hf
  clear hf
  have hwv1 := (Array.getElem?_eq_some_iff.1 HP1.out).1
  go_wp2_with fail
  go_loopw [31] (fun s31 wr => ∃ (i : Nat), i ≤ n ∧ s31 = .int .i64 i ∧ Hid (Fr v1 wr) ∧ Hid (symsErr B K xs = symsErr B K (xs.drop i)) ∧ Hid (∀ x ∈ xs.take i, codeCheck B K x.id x.data.length = 0)) (fun i _ => n - (intOf i).toNat)
  case atStart => exact ⟨0, Nat.zero_le _, rfl, Below.refl _ _, rfl, fun x h => by simp at h⟩
  case round =>
    obtain ⟨i, hi, rfl, HC, HE, HA⟩ := hrel
    have HFr : Hid (Fr w wr) := HF1.out.trans HC.out
    have HPr : Hid (wr.heap[w.heap.size]? = some (.cells #[.int .i64 B, .int .i64 K] 47 (0, 0))) := blk_go HP1.out HC.out
    have hpr := HPr.out
    (obtain ⟨x0, x1⟩ := box2_ hpr)
    have hwr0 := (Array.getElem?_eq_some_iff.1 hpr).1
    clear hpr
    by_cases hlt : i < n
    · obtain ⟨ad, rfl, hE⟩ := H.out.els (by omega)
      obtain ⟨x, hx, hrx⟩ := hE.row hlt
      obtain ⟨A3, n3, c3, ⟨m0, m1⟩, wx, ⟨k1, k2, k3⟩, hby⟩ := eSm_iff.1 hrx
      have hadl : ad.block < w.heap.size := hE.2.1
      have m0 : wr.cell? (ad.add (i * 2)) = some (.int .i64 x.id) := (HFr.out.cell (by rw [block_of_add]; exact hadl)).trans (by simpa [Addr.add] using m0)
      have m1 : wr.cell? ⟨(ad.add (i * 2)).block, (ad.add (i * 2)).off + 1, none⟩ = some (.slice A3 n3 c3) := (HFr.out.cell (by show (ad.add (i * 2)).block < _; rw [block_of_add]; exact hadl)).trans (by simpa [Addr.add] using m1)
      have hdl := hby.1
      obtain ⟨W4, hW4⟩ : ∃ W4, W4 = wr.alloc (.cells #[.int .i64 x.id, .slice A3 n3 c3] 53) := ⟨_, rfl⟩
      have HF4 : Hid (Fr wr W4) := by rw [hW4]; exact frAlloc _ _
      obtain ⟨ck, hck⟩ : ∃ ck, ck = codeCheck B K x.id n3 := ⟨_, rfl⟩
      have CC := Lib.hid (fun W A c => refCheckSym_any W B K x.id A n3 c wB wK)
      rw [← hck] at CC
      have HCK2 : Hid (codeCheck B K x.id x.data.length = ck) := by rw [Hid, hdl, hck]
      have HEX : Hid (symsErr B K xs = if ck ≠ 0 then ck else symsErr B K (xs.drop (i + 1))) := by
        rw [Hid, HE.out, drop_cons hx, symsErr, HCK2.out]
      have HTK : Hid (xs.take (i + 1) = xs.take i ++ [x]) := take_snoc' hx
      (have Hdl := Lib.hid hdl; clear hdl; have Hck := Lib.hid hck; clear hck; have HW4 := Lib.hid hW4; clear hW4)
      clear hrx hE hx hby wx
      go_wp2_with fail
      rw [← HW4.out]
      clear x0 x1 m0 m1
      (with_reducible refine (CC.out _ _ _).mono ?_)
      rintro e v5 ⟨rfl, hf⟩
      have HF5 : Hid (Fr v1 v5) := HC.out.trans (HF4.out.trans hf)
      clear hf CC HW4
      by_cases hc0 : ck = 0
      · have e1 : (ck != 0) = false := by simp [hc0]
        have HE' : Hid (symsErr B K xs = symsErr B K (xs.drop (i + 1))) := by rw [Hid, HEX.out, if_neg (by simp [hc0])]
        have HA' : Hid (∀ y ∈ xs.take (i + 1), codeCheck B K y.id y.data.length = 0) := fun y hy => by
          rw [HTK.out] at hy
          rcases List.mem_append.1 hy with hy | hy
          · exact HA.out y hy
          · obtain rfl := List.mem_singleton.1 hy; rw [HCK2.out]; exact hc0
        clear hc0 HEX HCK2
        go_wp2_with fail
        go_roundw
        case rel => exact ⟨i + 1, by omega, by go_num, HF5, HE', HA'⟩
        case measure => simp [intOf]; omega
      · have e1 : (ck != 0) = true := by simp [hc0]
        have ED : Hid (peelKn B K xs = ([], ck)) := by
          rw [Hid, D0.out, HEX.out, if_pos hc0]
          exact if_pos hc0
        have hc1 : Hid (ck ≠ 0) := hc0
        clear hc0 HEX HCK2
        go_wp2_with fail
        go_ret2
        exact peelPost_err ED.out hc1.out (HF1.out.trans HF5.out)
    · obtain rfl : i = n := by omega
      have htk : xs.take i = xs := List.take_of_length_le (by rw [HL.out]; exact Nat.le_refl _)
      have hdr : xs.drop i = [] := List.drop_eq_nil_of_le (by rw [HL.out]; exact Nat.le_refl _)
      have he0 : symsErr B K xs = 0 := by rw [HE.out, hdr]; rfl
      have ED : Hid (peelKn B K xs = (peelF b xs, 0)) := by rw [Hid, D0.out, if_neg (by simp [he0])]
      have HX : Hid (∀ x ∈ xs, 0 ≤ x.id ∧ x.id ≤ 9999 ∧ x.data.length = K) := fun x hx => by
        obtain ⟨_, h1, h2⟩ := codeCheck_ok (HA.out x (by rw [htk]; exact hx))
        exact ⟨h1.1, h1.2, by omega⟩
      clear htk hdr he0 HE HA
      go_wp2_with fail
      (with_reducible refine (CB.out _).mono ?_)
      rintro e v2 ⟨rfl, hf⟩
      have HF2 : Hid (Fr w v2) := HFr.out.trans hf
      obtain ⟨g, hg⟩ : ∃ g, g = v2.heap.size := ⟨_, rfl⟩
      obtain ⟨Wa, hWa⟩ : ∃ Wa, Wa = v2.alloc (.cells (ca id (List.replicate b (.slice none 0 0))) 27) := ⟨_, rfl⟩
      obtain ⟨kb, hkb⟩ : ∃ kb, kb = Wa.heap.size := ⟨_, rfl⟩
      obtain ⟨Wb, hWb⟩ : ∃ Wb, Wb = Wa.alloc (.cells #[.slice (some ⟨g, 0, none⟩) b b] 35) := ⟨_, rfl⟩
      obtain ⟨u, hu⟩ : ∃ u, u = Wb.heap.size := ⟨_, rfl⟩
      obtain ⟨W2, hW2⟩ : ∃ W2, W2 = Wb.alloc (.cells (ca Value.bool (List.replicate i false)) 4) := ⟨_, rfl⟩
      have hka : kb = g + 1 := by rw [hkb, hWa, hg]; simp
      have hua : u = g + 2 := by rw [hu, hWb]; simp [← hkb, hka]
      have hz2 : W2.heap.size = u + 1 := by rw [hW2, hu]; simp
      have HFW : Hid (Fr w W2) := HF2.out.trans (by rw [hW2, hWb, hWa]; exact ((frAlloc _ _).trans (frAlloc _ _)).trans (frAlloc _ _))
      have hka0 : Wa.heap[g]? = some (.cells (ca id (List.replicate b (Value.slice none 0 0))) 27 (0, 0)) := by rw [hWa]; exact heap_new hg
      have HKW : Hid (KnM K W2 (fun y => y < W2.heap.size ∧ y ≠ g ∧ y ≠ kb ∧ y ≠ u) g (List.replicate b none)) := knM_none (by rw [hW2, hWb]; exact heap_old (heap_old hka0))
      have HBW : Hid (W2.heap[kb]? = some (.cells #[.slice (some ⟨g, 0, none⟩) b b] 35 (0, 0))) := by rw [hW2, hWb]; exact heap_old (heap_new hkb)
      have HUW : Hid (W2.heap[u]? = some (.cells (ca Value.bool (List.replicate i false)) 4 (0, 0))) := by rw [hW2]; exact heap_new hu
      have hwg : w.heap.size ≤ g := by rw [hg]; exact HF2.out.size
      have HWa := Lib.hid hWa
      have HWb := Lib.hid hWb
      have HW2 := Lib.hid hW2
      have HKB := Lib.hid hkb
      have HU := Lib.hid hu
      have HG := Lib.hid hg
      have HR0 : Hid (∃ f, nones (List.replicate b (none : Option (List UInt8))) < f ∧ pRun f (List.replicate b none) (opn xs (List.replicate i false)) = peelF b xs) := ⟨b + 1, by unfold nones; rw [List.countP_replicate]; simp, by rw [← HL.out, opn_all]; rfl⟩
      have HKA := Lib.hid hka
      have HUA := Lib.hid hua
      have hgk : g < kb := by omega
      have hku : kb < u := by omega
      have huW : u < W2.heap.size := by omega
      clear hWa hWb hW2 hkb hu hg hka0 hf hka hua hz2
      go_wp2_with fail
      rw [← HG.out, ← HUA.out, ← HKA.out, ← HWa.out, ← HWb.out, ← HW2.out]
      clear hmk hmk2 x0 x1 HP1 HPr
      go_loopw [12] (fun s12 wr => ∃ (m : Bool) (kn : Kn) (U : List Bool), s12 = .bool m ∧ Hid (KnM K wr (fun y => y < wr.heap.size ∧ y ≠ g ∧ y ≠ kb ∧ y ≠ u) g kn) ∧ kn.length = b ∧ Hid (KnLen K kn) ∧ U.length = i ∧ Hid (wr.heap[u]? = some (.cells (ca Value.bool U) 4 (0, 0))) ∧ Hid (m = true → ∃ f, nones kn < f ∧ pRun f kn (opn xs U) = peelF b xs) ∧ Hid (m = false → kn = peelF b xs) ∧ Hid (Chg (fun y => y = g ∨ y = u) W2 wr)) (fun m wr => nilsAt g wr + moreN m)
      case atStart => exact ⟨true, _, _, rfl, HKW, by simp, (good_none b K fun _ => True).all, by simp, HUW, fun _ => HR0.out, fun e => (by cases e), Chg.refl _ _⟩
      case round =>
        obtain ⟨m, kn, U, rfl, HK, hkl, HKK, hUl, HUU, HRT, HRF, HC⟩ := hrel
        obtain ⟨wo, rfl⟩ : ∃ wo : World, wo = wr := ⟨_, rfl⟩
        have HBo : Hid (wo.heap[kb]? = some (.cells #[.slice (some ⟨g, 0, none⟩) b b] 35 (0, 0))) := HC.out.blk HBW.out (by omega)
        have HFo : Hid (Fr w wo) := HC.out.fr HFW.out fun y hy => by omega
        cases m with
        | false =>
          have HKF : Hid (kn = peelF b xs) := HRF.out rfl
          have hbo := HBo.out
          have x0 := box1_ hbo
          clear hbo
          have hlp : (peelF b xs).length = b := length_peelF b xs
          have HKf : Hid (KnM K wo (fun y => y < wo.heap.size ∧ y ≠ g) g (peelF b xs)) := by
            rw [← HKF.out]
            exact HK.out.more fun y hy => ⟨hy.1, hy.2.1⟩
          clear HRT HRF HKF
          go_wp2_with fail
          go_ret2
          rw [ED.out]
          exact ⟨HFo.out, .inr ⟨rfl, g, b, rfl, hlp, ⟨b1, b2⟩, HKf.out⟩⟩
        | true =>
          have hRT := HRT.out rfl
          have HRT' := Lib.hid hRT
          clear hRT HRT HRF
          have HMO := Lib.hid (nilsAt_kn HK.out)
          go_wp2_with fail
          go_loopw [12, 51] (fun s12 s51 wr => ∃ (j : Nat) (m : Bool) (kn' : Kn) (U' : List Bool), j ≤ i ∧ s51 = .int .i64 j ∧ s12 = .bool m ∧ Hid (KnM K wr (fun y => y < wr.heap.size ∧ y ≠ g ∧ y ≠ kb ∧ y ≠ u) g kn') ∧ kn'.length = b ∧ Hid (KnLen K kn') ∧ U'.length = i ∧ Hid (wr.heap[u]? = some (.cells (ca Value.bool U') 4 (0, 0))) ∧ Hid (RndAt kn (opn xs U) xs U' j kn' m) ∧ Hid (Chg (fun y => y = g ∨ y = u) W2 wr)) (fun _ j _ => i - (intOf j).toNat)
          case atStart => exact ⟨0, false, kn, U, Nat.zero_le _, rfl, rfl, HK, hkl, HKK, hUl, HUU, rndAt_zero kn xs U, HC⟩
          case round =>
            obtain ⟨j, m, kn', U', hj, rfl, rfl, HK', hkl', HKK', hUl', HUU', HRA, HC'⟩ := hrel
            obtain ⟨wp, rfl⟩ : ∃ wp : World, wp = wr := ⟨_, rfl⟩
            by_cases hlt : j < i
            · have HBp : Hid (wp.heap[kb]? = some (.cells #[.slice (some ⟨g, 0, none⟩) b b] 35 (0, 0))) := HC'.out.blk HBW.out (by omega)
              have HFp : Hid (Fr w wp) := HC'.out.fr HFW.out fun y hy => by omega
              obtain ⟨ad, rfl, hE⟩ := H.out.els (by omega)
              obtain ⟨x, hx, hrx⟩ := hE.row hlt
              obtain ⟨A3, n3, c3, ⟨m0, m1⟩, wx, ⟨k1, k2, k3⟩, hby⟩ := eSm_iff.1 hrx
              have hadl : ad.block < w.heap.size := hE.2.1
              have m0 : wp.cell? (ad.add (j * 2)) = some (.int .i64 x.id) := (HFp.out.cell (by rw [block_of_add]; exact hadl)).trans (by simpa [Addr.add] using m0)
              have m1 : wp.cell? ⟨(ad.add (j * 2)).block, (ad.add (j * 2)).off + 1, none⟩ = some (.slice A3 n3 c3) := (HFp.out.cell (by show (ad.add (j * 2)).block < _; rw [block_of_add]; exact hadl)).trans (by simpa [Addr.add] using m1)
              obtain ⟨id1, id2, hxK⟩ := HX.out x (List.mem_of_getElem? hx)
              obtain rfl : n3 = K := hby.1.symm.trans hxK
              obtain ⟨us, hus⟩ : ∃ us, U'[j]? = some us := ⟨_, List.getElem?_eq_getElem (by omega)⟩
              have hcu : wp.cell? ⟨u, j, none⟩ = some (.bool us) := ca_cell HUU'.out hus
              have hfu : wp.frozen? ⟨u, j, none⟩ = false := ca_free HUU'.out
              have HXL : Hid (xs.length = U'.length) := HL.out.trans hUl'.symm
              obtain ⟨q, hq⟩ : ∃ q, q = wp.heap.size := ⟨_, rfl⟩
              obtain ⟨W5, hW5⟩ : ∃ W5, W5 = wp.alloc (.cells #[.int .i64 x.id, .slice A3 n3 c3] 53) := ⟨_, rfl⟩
              have HX5 : Hid (W5.heap[q]? = some (.cells #[.int .i64 x.id, .slice A3 n3 c3] 53 (0, 0))) := by rw [hW5]; exact heap_new hq
              have HF5 : Hid (Fr wp W5) := by rw [hW5]; exact frAlloc _ _
              have hul := ca_lt HUU'.out
              have hX5 := HX5.out
              (obtain ⟨z0, z1⟩ := box2_ hX5)
              have HW5 := Lib.hid hW5
              have HBY := Lib.hid hby
              have HXI := Lib.hid hx
              have HUI := Lib.hid hus
              have HFD : Hid (Chg (fun y => y = g ∨ y = u) W2 W5) := HC'.out.trans HF5.out.chg
              have HW2p := HC'.out.size
              (have Hq := Lib.hid hq; clear hq; have HxK := Lib.hid hxK; clear hxK)
              clear hE hrx wx hW5 hby hX5 hx
              cases us with
              | true =>
                have HRA' := Lib.hid (HRA.out.used HXL.out HXI.out hus)
                have HU6 : Hid (W5.heap[u]? = some (.cells (ca Value.bool U') 4 (0, 0))) := blk_go HUU'.out HF5.out
                have HK6 : Hid (KnM n3 W5 (fun y => y < W5.heap.size ∧ y ≠ g ∧ y ≠ kb ∧ y ≠ u) g kn') := (HK'.out.fr HF5.out fun y hy => hy.1).more fun y hy => ⟨Nat.lt_of_lt_of_le hy.1 HF5.out.size, hy.2⟩
                clear hus
                go_wp2_with fail
                rw [← HW5.out]
                go_roundw
                case rel => exact ⟨j + 1, m, kn', U', by omega, by go_num, rfl, HK6, hkl', HKK', hUl', HU6, HRA', HFD⟩
                case measure => simp [intOf]; omega
              | false =>
                have y0 := box1_ HBp.out
                have hkl0 : kb < wp.heap.size := by omega
                have HB5 : Hid (W5.heap[kb]? = some (.cells #[.slice (some ⟨g, 0, none⟩) b b] 35 (0, 0))) := blk_go HBp.out HF5.out
                obtain ⟨HH, hHH⟩ : ∃ HH, HH = pickHas x.id.toNat b := ⟨_, rfl⟩
                have HHL : Hid (HH.length = b) := by rw [hHH]; exact length_pickHas _ _
                have HPR : Hid (pickedR x.id b = (selIdx HH, 0)) := by
                  rw [hHH]
                  exact if_pos ⟨id1, id2, by omega, by omega⟩
                have HPC := Lib.hid (pOne_cases kn' x)
                rw [hkl', ← hHH] at HPC
                have HTX := Lib.hid (told_xor hK HKK'.out HH HxK.out)
                have HTF := Lib.hid (told_facts hK HKK'.out HH HxK.out)
                have HKL1 := Lib.hid (pOne_knLen hK HKK'.out HxK.out)
                rw [hkl'] at HTX HTF
                have HUI := Lib.hid hus
                clear hHH z0 z1 hus
                go_wp2_with fail
                rw [← HW5.out, ← Hq.out]
                (with_reducible refine (refPicked_any _ _ _).mono ?_)
                rw [HPR.out]
                rintro e w6 ⟨A6, n6, c6, rfl, ⟨hc6, hm6⟩, hs6, hf⟩
                obtain ⟨L, hL⟩ : ∃ L, L = selIdx HH := ⟨_, rfl⟩
                have hLb : L.length ≤ 24 := by
                  have := (Sel.idx HH).length
                  rw [← hL, HHL.out] at this; omega
                have hn6 : n6 ≤ 24 := by rw [← hs6.1]; rw [← hL]; exact hLb
                have HMI : Hid (keepF (fun k => kn'.isK k.toNat) L = (miss HH kn' b).map fun k : Nat => (k : Int)) := by rw [hL, Hid, keepF_miss, HHL.out]
                have HGI : Hid (gotL kn' L = got HH kn' b) := by rw [hL, Hid, gotL_idx, HHL.out]
                have HLB : Hid (∀ k ∈ L, ∃ r : Nat, k = (r : Int) ∧ r < b) := fun k hk => by
                  rw [hL] at hk
                  obtain ⟨r, h1, h2⟩ := (Sel.idx HH).bd k hk
                  exact ⟨r, h1, by rw [← HHL.out]; exact h2⟩
                have HKN : Hid (∀ a t k, miss HH kn' b = [a] → L[t]? = some k → (k = (a : Int) ∧ kn'.getD k.toNat none = none) ∨ (k ≠ (a : Int) ∧ ∃ l, kn'[k.toNat]? = some (some l))) := fun a t k h1 h2 => gotL_known (by rw [HHL.out]; exact h1) (by rw [← hL]; exact h2)
                rw [← hL] at hs6
                have HS6 := Lib.hid hs6
                have HSU : Hid (Sl 1 eInt w6 (fun y => y < w6.heap.size ∧ y ≠ u) A6 n6 L) := (show Sl 1 eInt w6 (LT w6.heap.size) A6 n6 L from hs6).notBlk (blk_go HUU'.out (HF5.out.trans hf)) boolsNo
                have HX6 := Lib.hid (blk_go HX5.out hf)
                have hq6 := (Array.getElem?_eq_some_iff.1 HX6.out).1
                have HB6 := Lib.hid (blk_go HB5.out hf)
                have HF6 : Hid (Fr wp w6) := HF5.out.trans hf
                (have HL := Lib.hid hL; clear hL)
                clear hs6 hf HB5 HX5 y0
                go_wp2_with fail
                (with_reducible refine (cloneInts_any _ _ _ _ L HS6.out (by unfold lim; omega)).mono ?_)
                rintro e w7 ⟨v7, rfl, ho7, hf⟩
                have HS7 := Lib.hid (HS6.out.go sInt hf)
                have HX7 := Lib.hid (blk_go HX6.out hf)
                have HB7 := Lib.hid (blk_go HB6.out hf)
                have HF7 : Hid (Fr wp w7) := HF6.out.trans hf
                have HO7 := Lib.hid ho7
                have hw67 := HF6.out.size
                have hw67b := hf.size
                have HFQ := Lib.hid hf
                have HK7 := Lib.hid (HK'.out.fr HF7.out fun y hy => hy.1)
                have HNV : Hid (∀ y, v7.ownBlock = some y → w6.heap.size ≤ y ∧ y < w7.heap.size) := fun y hy => HO7.out.lt hy
                clear ho7 hf HS6 HX6 HB6
                have CD := Lib.hid (deleteFuncInt_own w7 85 (.pointer (some ⟨kb, 0, none⟩)) (fun _ _ => by kernel_rfl) (fun k => kn'.isK k.toNat) w6.heap.size v7 L HO7.out (fun W hC k hk => by
                  obtain ⟨r, rfl, hr⟩ := HLB.out k hk
                  rw [Int.toNat_natCast]
                  refine isKnown_any W kb g b n3 _ kn' (hC.blk HB7.out (fun e => by have := HNV.out _ e; omega)) (HK7.out.chg hC (fun e => by have := HNV.out _ e; omega) fun y hy => ⟨Nat.lt_of_lt_of_le hy.1 HF7.out.size, fun e => by have := HNV.out _ e; have := hy.1; omega⟩) hkl' r hr b2))
                rw [HMI.out] at CD
                obtain ⟨mm, hmm⟩ : ∃ mm, mm = (miss HH kn' b).length := ⟨_, rfl⟩
                rw [List.length_map, ← hmm] at CD
                have hmb := length_miss HH kn' b
                rw [← hmm] at hmb
                go_wp2_with fail
                (with_reducible refine (CD.out).mono ?_)
                rintro e w8 ⟨A8, c8, rfl, hs8, hc8⟩
                have HC78 := Lib.hid hc8
                have HNW : Hid (∀ y, v7.ownBlock = some y → wp.heap.size ≤ y) := fun y hy => by have := HNV.out y hy; omega
                have HF8 : Hid (Fr wp w8) := HC78.out.fr HF7.out HNW.out
                have HX8 : Hid (w8.heap[q]? = some (.cells #[.int .i64 x.id, .slice A3 n3 c3] 53 (0, 0))) := hc8.blk HX7.out (fun e => by have := HNV.out _ e; omega)
                have HB8 := Lib.hid (hc8.blk HB7.out (fun e => by have := HNV.out _ e; omega))
                have HS8 := Lib.hid hs8
                have HU8 : Hid (w8.heap[u]? = some (.cells (ca Value.bool U') 4 (0, 0))) := blk_go HUU'.out HF8.out
                have hul8 : u < w8.heap.size := ca_lt HU8.out
                have hu8 : w8.cell? ⟨u, j, none⟩ = some (.bool false) := ca_cell HU8.out HUI.out
                have hf8 : w8.frozen? ⟨u, j, none⟩ = false := ca_free HU8.out
                have HK8 : Hid (KnM n3 w8 (fun y => y < w8.heap.size ∧ y ≠ g ∧ y ≠ kb ∧ y ≠ u) g kn') := (HK'.out.fr HF8.out fun y hy => hy.1).more fun y hy => ⟨Nat.lt_of_lt_of_le hy.1 HF8.out.size, hy.2⟩
                have HC8 : Hid (Chg (fun y => y = g ∨ y = u) W2 w8) := HC'.out.trans HF8.out.chg
                have HSP : Hid (Sl 1 eInt w8 (fun y => y < w6.heap.size ∧ y ≠ u) A6 n6 L) := HSU.out.keep sInt fun p hp => (hc8.cell (Nat.lt_of_lt_of_le hp.1 hw67b) fun e => by have := HNV.out _ e; have := hp.1; omega).trans (HFQ.out.cell hp.1)
                clear hc8 hs8 hu8 CD
                have hu8 : w8.cell? ⟨u, j, none⟩ = some (.bool false) := ca_cell HU8.out HUI.out
                obtain ⟨W9, hW9⟩ : ∃ W9, W9 = w8.setCell ⟨u, j, none⟩ (.bool true) := ⟨_, rfl⟩
                have HU9 : Hid (W9.heap[u]? = some (.cells (ca Value.bool (U'.set j true)) 4 (0, 0))) := by rw [hW9]; exact ca_set HU8.out
                have HC89 : Hid (Chg (fun y => y = u) w8 W9) := by rw [hW9]; exact Chg.set (S := fun y => y = u) (p := ⟨u, j, none⟩) (Chg.refl _ _) rfl _
                have hsz9 : Hid (W9.heap.size = w8.heap.size) := by rw [Hid, hW9, size_setCell]
                have HK9 : Hid (KnM n3 W9 (fun y => y < W9.heap.size ∧ y ≠ g ∧ y ≠ kb ∧ y ≠ u) g kn') := (HK8.out.chg HC89.out (by omega) fun y hy => ⟨hy.1, hy.2.2.2⟩).more fun y hy => ⟨Nat.lt_of_lt_of_le hy.1 HC89.out.size, hy.2⟩
                have HC9 : Hid (Chg (fun y => y = g ∨ y = u) W2 W9) := HC8.out.trans (HC89.out.more fun y hy => .inr hy)
                have hUl9 : (U'.set j true).length = i := by rw [List.length_set]; exact hUl'
                have HW9 := Lib.hid hW9
                clear hW9
                rcases HPC.out with ⟨a, hm, ha, hha, hak, epo⟩ | ⟨hm, epo⟩ | ⟨hm, epo⟩
                · obtain rfl : mm = 1 := by rw [hmm, hm]; rfl
                  obtain ⟨T, hT⟩ : ∃ T, T = told HH x.data kn' := ⟨_, rfl⟩
                  rw [← hT] at HTF HTX epo
                  have HRA' := HRA.out.goes HXL.out HXI.out HUI.out epo
                  rw [Bool.or_true] at HRA'
                  have HRA2 := Lib.hid HRA'
                  have HKK9 := HKL1.out
                  rw [epo] at HKK9
                  have HKK9' : Hid (KnLen n3 (kn'.set a (some T))) := HKK9
                  have hkl9 : (kn'.set a (some T)).length = b := by rw [List.length_set]; exact hkl'
                  have ha8 : (List.map (fun k : Nat => (k : Int)) (miss HH kn' b)) = [(a : Int)] := by rw [hm]; rfl
                  rw [ha8] at HS8
                  obtain ⟨ad8, rfl, hE8⟩ := HS8.out.els (by omega)
                  obtain ⟨a', ha', hca, _⟩ := hE8.int (k := 0) (by omega)
                  obtain rfl : (a : Int) = a' := by simpa using ha'
                  have hca : w8.cell? ad8 = some (.int .i64 (a : Int)) := by simpa [Addr.add] using hca
                  have hb8 : v7.ownBlock = some ad8.block := hE8.2.1
                  obtain ⟨hn8, hn8'⟩ := HNV.out _ hb8
                  have HCA9 : Hid (W9.cell? ad8 = some (.int .i64 (a : Int))) := (HC89.out.cell (p := ad8) (World.block_lt_of_cell? w8 _ hca) (by omega)).trans hca
                  have hl8 : ad8.block < W9.heap.size := World.block_lt_of_cell? W9 _ HCA9.out
                  have HM := Lib.hid hm
                  have hqu : q ≠ u := by have := Hq.out; omega
                  have huq : u ≠ q := fun e => hqu e.symm
                  have HX9 : Hid (W9.heap[q]? = some (.cells #[.int .i64 x.id, .slice A3 n3 c3] 53 (0, 0))) := HC89.out.blk HX8.out hqu
                  have HB9 : Hid (W9.heap[kb]? = some (.cells #[.slice (some ⟨g, 0, none⟩) b b] 35 (0, 0))) := HC89.out.blk HB8.out (by omega)
                  have HSQ : Hid (Sl 1 eInt W9 (fun y => y < w6.heap.size ∧ y ≠ u) A6 n6 L) := HSP.out.chg sInt HC89.out fun y hy => ⟨Nat.lt_of_lt_of_le hy.1 (Nat.le_trans hw67b HC78.out.size), hy.2⟩
                  obtain ⟨W10, hW10⟩ : ∃ W10, W10 = W9.alloc (.cells #[.slice A3 n3 c3] 27) := ⟨_, rfl⟩
                  obtain ⟨q10, hq10⟩ : ∃ q10, q10 = w8.heap.size := ⟨_, rfl⟩
                  have HFQ9 : Hid (Fr W9 W10) := by rw [hW10]; exact frAlloc _ _
                  have HFw9 : Hid (Fr w W9) := HC9.out.fr HFW.out fun y hy => by omega
                  have hq9 : q10 = W9.heap.size := by rw [hq10, hsz9.out]
                  have HO10 : Hid (Own 1 eBlock W10 W9.heap.size 27 (.slice (some ⟨q10, 0, none⟩) 1 1) (x.data :: gotL kn' (L.take 0))) := by
                    refine own_one (vs := [.slice A3 n3 c3]) wBlock (Nat.le_of_eq hq9.symm) (by rw [hW10]; exact heap_new hq9) rfl ⟨A3, n3, c3, rfl, ⟨k1, k2, k3⟩, (HBY.out.keep (w' := W10) sByte fun p hp => (HFw9.out.trans HFQ9.out).cell hp).more sByte fun y hy => ?_⟩
                    have h2 := HFQ9.out.size
                    have h3 := HFw9.out.size
                    have hy : y < w.heap.size := hy
                    exact ⟨by omega, by omega⟩
                  have z1 := (box2_ HX8.out).2
                  have hq8 : q < w8.heap.size := (Array.getElem?_eq_some_iff.1 HX8.out).1
                  have HW10 := Lib.hid hW10
                  have HQ10 := Lib.hid hq10
                  have HQ9 := Lib.hid hq9
                  (have HT := Lib.hid hT; clear hT; have Hmm := Lib.hid hmm; clear hmm)
                  clear hm hha hak epo HRA' HKK9 ha8 ha' hE8 hb8 hW10 hq10 hq9 hca
                  go_wp2_with fail
                  rw [← HW9.out, ← HW10.out, ← HQ10.out]
                  clear z1
                  go_loopw [18, 86] (fun s18 s86 wy => ∃ t, t ≤ n6 ∧ s86 = .int .i64 t ∧ Hid (Own 1 eBlock wy W9.heap.size 27 s18 (x.data :: gotL kn' (L.take t))) ∧ Hid (Fr W9 wy)) (fun _ t _ => n6 - (intOf t).toNat)
                  case atStart => exact ⟨0, Nat.zero_le _, rfl, HO10, HFQ9⟩
                  case round =>
                    obtain ⟨t, ht, rfl, HOy, HF9y⟩ := hrel
                    obtain ⟨wy, rfl⟩ : ∃ wy : World, wy = wr := ⟨_, rfl⟩
                    have hsy := HF9y.out.size
                    have h8y : wy.cell? ad8 = some (.int .i64 (a : Int)) := (HF9y.out.cell hl8).trans HCA9.out
                    have HBy := Lib.hid (blk_go HB9.out HF9y.out)
                    have y0 := box1_ HBy.out
                    have HKy : Hid (KnM n3 wy (fun y => y < W9.heap.size ∧ y ≠ g ∧ y ≠ kb ∧ y ≠ u) g kn') := HK9.out.fr HF9y.out fun y hy => hy.1
                    by_cases hlt6 : t < n6
                    · obtain ⟨adL, rfl, hEL⟩ := (HSQ.out.keep (w' := wy) sInt fun p hp => HF9y.out.cell (Nat.lt_of_lt_of_le hp.1 (Nat.le_trans (Nat.le_trans hw67b HC78.out.size) HC89.out.size))).els (by omega)
                      obtain ⟨k, hk, hck, _⟩ := hEL.int hlt6
                      obtain ⟨r, rfl, hr⟩ := HLB.out k (List.mem_of_getElem? hk)
                      have HGS := Lib.hid (gotL_snoc (kn := kn') hk)
                      rw [Int.toNat_natCast] at HGS
                      obtain ⟨xo, vr, hxo, hcr, hkr⟩ := HKy.out.get (i := r) (by omega)
                      have hgl := length_gotL kn' (L.take t)
                      rw [List.length_take] at hgl
                      rcases HKN.out a t _ HM.out hk with ⟨e1, e2⟩ | ⟨e1, l, e2⟩
                      · obtain rfl : r = a := by omega
                        rw [Int.toNat_natCast] at e2
                        have HGS' : Hid (gotL kn' (L.take (t + 1)) = gotL kn' (L.take t)) := by rw [Hid, HGS.out, e2]; simp
                        clear hEL hk e1 e2 hxo hcr hkr HGS
                        go_wp2_with fail
                        go_roundw
                        case rel => exact ⟨t + 1, by omega, by go_num, by rw [HGS'.out]; exact HOy, HF9y⟩
                        case measure => simp [intOf]; omega
                      · rw [Int.toNat_natCast] at e2
                        obtain rfl : xo = some l := by rw [hxo] at e2; injection e2
                        rcases hkr with ⟨e3, _⟩ | ⟨l', adl, cl, e3, rfl, hcl, hsl⟩
                        · cases e3
                        · injection e3 with e3
                          subst e3
                          have n1 : ¬ ((r : Int) = (a : Int)) := e1
                          have n2 : ((r : Int) != (a : Int)) = true := by rw [bne_iff_ne]; exact e1
                          have n3' : (r != a) = true := by rw [bne_iff_ne]; omega
                          obtain ⟨LL, hLL⟩ : ∃ LL, LL = x.data :: gotL kn' (L.take t) := ⟨_, rfl⟩
                          have HN : Hid (x.data :: gotL kn' (L.take (t + 1)) = LL ++ [l]) := by
                            rw [Hid, HGS.out, List.getD_eq_getElem?_getD, e2, hLL]; rfl
                          have hLl : LL.length ≤ 25 := by rw [hLL, List.length_cons]; omega
                          rw [← hLL] at HOy
                          have hLs : (LL.length + 1) * 24 ≤ lim := by unfold lim; omega
                          have hLm : LL.length + 1 ≤ maxLen := by unfold maxLen; omega
                          have hyy : Hid (eBlock wy (fun b => b < wy.heap.size ∧ u18.ownBlock ≠ some b) (fun j => [Value.slice (some adl) n3 cl][j]?) l) := by
                            refine ⟨some adl, n3, cl, rfl, ⟨by unfold lim; omega, hcl.1, hcl.2⟩, hsl.more sByte fun y hy => ?_⟩
                            exact ⟨by omega, fun e => by have := (HOy.out.lt e).1; omega⟩
                          have hone : Hid (∀ u ∈ [Value.slice (some adl) n3 cl], u.oneCell' = true) := by intro u hu; simp at hu; subst hu; rfl
                          (have HLL := Lib.hid hLL; clear hLL)
                          clear hEL hk e1 e2 hxo hsl HGS
                          go_wp2_with (at_builtin; refine wpList_app1 rfl _ _ 35 rfl W9.heap.size 27 (.slice none 0 0) 24 Try.underlying35 infoBlock rfl (by decide) wBlock wy (frAlloc _ _) _ LL rfl HOy.out wy.heap.size [.slice (some adl) n3 cl] 27 (0, 0) rfl (heap_new rfl) rfl hone.out l hyy.out hLm hLs W9.heap.size W9 HF9y.out (Nat.le_refl _) hsy ?_)
                          intro v' w3 HO3 HF3
                          clear y0 h8y hcr hcl
                          go_wp2_with fail
                          go_roundw
                          case rel => exact ⟨t + 1, by omega, by go_num, by rw [HN.out]; exact HO3, HF3⟩
                          case measure => simp [intOf]; omega
                    · obtain rfl : t = n6 := by omega
                      have hLt : L.take t = L := List.take_of_length_le (by rw [HSQ.out.1]; exact Nat.le_refl _)
                      rw [hLt, HGI.out] at HOy
                      have hgl := length_got HH kn' b
                      obtain ⟨LL, hLL⟩ : ∃ LL, LL = x.data :: got HH kn' b := ⟨_, rfl⟩
                      rw [← hLL] at HOy HTX
                      have hLl : 1 ≤ LL.length ∧ LL.length ≤ 25 := by rw [hLL, List.length_cons]; omega
                      have hhd : (LL.headD []).length = n3 := by rw [hLL, List.headD_cons]; exact HxK.out
                      obtain ⟨A9, c9, rfl, ⟨hc9, hm9⟩, hs9⟩ := HOy.out.slC wBlock (by decide)
                      have CS : Hid (Calls Try.prog 78 #[.slice A9 LL.length c9] wy.drew fun e w' => ∃ A' c', e = .returned (.slice A' n3 c') ∧ (n3 ≤ c' ∧ c' ≤ maxLen) ∧ Sl 1 eByte w' (NW wy.heap.size w'.heap.size) A' n3 T ∧ Fr wy w') := by
                        refine (refSum_any wy.drew A9 LL.length c9 n3 LL (hs9.keep wBlock fun _ _ => rfl) (by unfold lim; omega) HTX.out.1 (by omega) hhd.symm).mono ?_
                        rintro e w' ⟨v, rfl, ho, hf⟩
                        rw [HTX.out.2] at ho
                        obtain ⟨A', c', rfl, hc', hs'⟩ := ho.nwBytes
                        have hTl := HTF.out.2.1
                        rw [hTl] at hc' hs' ⊢
                        exact ⟨A', c', rfl, hc', hs', Fr.trans (Below.refl _ _).drew hf⟩
                      obtain ⟨xo, va, hxo, hva, _⟩ := HKy.out.get (i := a) (by omega)
                      have HVA := Lib.hid hva
                      have HFA : Hid (wy.frozen? ⟨g, a, none⟩ = false) := HKy.out.free
                      have hgw : g < wy.heap.size := by omega
                      have hkw : kb < wy.heap.size := by omega
                      have NE : g ≠ kb := by omega
                      have h8w : ad8.block < wy.heap.size := by omega
                      have NE8 : ad8.block ≠ g := by omega
                      have hak2 : a < kn'.length := by omega
                      have H8Y := Lib.hid h8y
                      have hsf : Hid (∀ (w' : World) (v : Value), w'.cell? ad8 = some (.int .i64 (a : Int)) → (w'.setCell ⟨g, a, none⟩ v).cell? ad8 = some (.int .i64 (a : Int))) := fun w' v h => (World.cell?_setCell_other _ _ _ _ fun e => NE8 (by rw [← e])).trans h
                      (have HLL := Lib.hid hLL; clear hLL; have Hs9 := Lib.hid hs9; clear hs9; have HLt := Lib.hid hLt; clear hLt)
                      clear hxo hva hhd
                      go_wp2_with fail
                      go_region_held3 (fun w' => w'.cell? ⟨kb, 0, none⟩ = some (.slice (some ⟨g, 0, none⟩) b b) ∧ w'.cell? ad8 = some (.int .i64 (a : Int))) (first | exact ⟨y0, h8y⟩ | exact ⟨(set1_far NE).trans hy9, hsf.out _ _ h89⟩ | exact ⟨hy9, h89⟩ | go_keep)
                        (first
                          | (go_at_call 78; (with_reducible refine CS.out.mono ?_); rintro e w9 ⟨A9', c9', rfl, hc9', hs9', hf9⟩; have hy9 : w9.cell? ⟨kb, 0, none⟩ = some (.slice (some ⟨g, 0, none⟩) b b) := (hf9.cell (p := ⟨kb, 0, none⟩) hkw).trans y0; have h89 : w9.cell? ad8 = some (.int .i64 (a : Int)) := (hf9.cell h8w).trans H8Y.out; have hv9 : w9.cell? ⟨g, a, none⟩ = some va := (hf9.cell (p := ⟨g, a, none⟩) hgw).trans HVA.out; have hv8 : w9.frozen? ⟨g, a, none⟩ = false := (hf9.frozen (p := ⟨g, a, none⟩) hgw).trans HFA.out; have HFY9 := Lib.hid hf9; have HS9 := Lib.hid hs9'; have HC9' := Lib.hid hc9'; clear hf9 hs9' hc9')
                          | fail)
                      obtain ⟨ad9, rfl, _⟩ := HS9.out.els (by omega)
                      have hw9 := HFY9.out.size
                      have HK10 : Hid (KnM n3 (w9.setCell ⟨g, a, none⟩ (.slice (some ad9) n3 c9')) (fun y => y < (w9.setCell ⟨g, a, none⟩ (.slice (some ad9) n3 c9')).heap.size ∧ y ≠ g ∧ y ≠ kb ∧ y ≠ u) g (kn'.set a (some T))) := by
                        refine KnM.set ((HKy.out.fr HFY9.out fun y hy => by have := hy.1; omega).more fun y hy => ?_) (fun h => h.2.1 rfl) hak2 HC9'.out (HS9.out.more sByte fun y hy => ?_)
                        · rw [size_setCell]; exact ⟨by have := hy.1; omega, hy.2⟩
                        · rw [size_setCell]; have h1 := hy.1; have h2 := hy.2; exact ⟨h2, by omega, by omega, by omega⟩
                      have HU10 : Hid ((w9.setCell ⟨g, a, none⟩ (.slice (some ad9) n3 c9')).heap[u]? = some (.cells (ca Value.bool (U'.set j true)) 4 (0, 0))) :=
                        (Chg.set (S := fun y => y = g) (p := ⟨g, a, none⟩) (Chg.refl _ w9) rfl _).blk (blk_go (blk_go HU9.out HF9y.out) HFY9.out) (by omega)
                      have HC10 : Hid (Chg (fun y => y = g ∨ y = u) W2 (w9.setCell ⟨g, a, none⟩ (.slice (some ad9) n3 c9'))) := Chg.set (S := fun y => y = g ∨ y = u) (p := ⟨g, a, none⟩) (HC9.out.trans (HF9y.out.trans HFY9.out).chg) (.inl rfl) _
                      clear hy9 hv9 hv8 h89 y0 h8y
                      go_wp2_with fail
                      go_roundw
                      case rel => exact ⟨j + 1, true, kn'.set a (some T), U'.set j true, by omega, by go_num, rfl, HK10, hkl9, HKK9', hUl9, HU10, HRA2, HC10⟩
                      case measure => simp [intOf]; omega
                · have hm1 : 1 < mm := by rw [hmm]; exact hm
                  have HRA' := Lib.hid (HRA.out.stays HXL.out HXI.out HUI.out epo)
                  clear hm epo hmm
                  go_wp2_with fail
                  go_roundw
                  case rel => exact ⟨j + 1, m, kn', U', by omega, by go_num, rfl, HK8, hkl', HKK', hUl', HU8, HRA', HC8⟩
                  case measure => simp [intOf]; omega
                · have hm0 : mm = 0 := by rw [hmm]; exact hm
                  have HRA' := HRA.out.goes HXL.out HXI.out HUI.out epo
                  rw [Bool.or_false] at HRA'
                  have HRA2 := Lib.hid HRA'
                  subst hm0
                  clear hm epo hmm HRA'
                  go_wp2_with fail
                  rw [← HW9.out]
                  go_roundw
                  case rel => exact ⟨j + 1, m, kn', U'.set j true, by omega, by go_num, rfl, HK9, hkl', HKK', hUl9, HU9, HRA2, HC9⟩
                  case measure => simp [intOf]; omega
            · obtain rfl : j = i := by omega
              have HDN := HRA.out.done (HL.out.trans hUl'.symm) HL.out.symm
              obtain ⟨f, hf1, hf2⟩ := HRT'.out
              obtain ⟨f, rfl⟩ : ∃ f', f = f' + 1 := ⟨f - 1, by omega⟩
              rw [pRun, HDN] at hf2
              have hnn := pRound_nones (opn xs U) kn
              rw [HDN] at hnn
              have hle := HMO.out
              have hle' := nilsAt_kn HK'.out
              cases m with
              | true =>
                have hf2' : pRun f kn' (opn xs U') = peelF b xs := by simpa using hf2
                have HRT2 : Hid (true = true → ∃ f, nones kn' < f ∧ pRun f kn' (opn xs U') = peelF b xs) := fun _ => ⟨f, by simp at hnn; omega, hf2'⟩
                have HRF2 : Hid (true = false → kn' = peelF b xs) := fun e => (by cases e)
                have HME : Hid (nilsAt g wp + moreN (.bool true) < nilsAt g wo + moreN (.bool true)) := by
                  rw [Hid, hle, hle']; simp at hnn; omega
                clear hf1 hf2 hf2' hnn hle hle' HDN
                go_wp2_with fail
                go_roundw
                case rel => exact ⟨true, kn', U', rfl, HK', hkl', HKK', hUl', HUU', HRT2, HRF2, HC'⟩
                case measure => exact HME.out
              | false =>
                have hf2' : kn' = peelF b xs := by simpa using hf2
                have HRT2 : Hid (false = true → ∃ f, nones kn' < f ∧ pRun f kn' (opn xs U') = peelF b xs) := fun e => (by cases e)
                have HRF2 : Hid (false = false → kn' = peelF b xs) := fun e => hf2'
                have HME : Hid (nilsAt g wp + moreN (.bool false) < nilsAt g wo + moreN (.bool true)) := by
                  rw [Hid, hle, hle']; simp [moreN] at hnn ⊢; omega
                clear hf1 hf2 hf2' hnn hle hle' HDN
                go_wp2_with fail
                go_roundw
                case rel => exact ⟨false, kn', U', rfl, HK', hkl', HKK', hUl', HUU', HRT2, HRF2, HC'⟩
                case measure => exact HME.out
set_option maxRecDepth 100000 in
set_option maxHeartbeats 1000000 in
theorem refPeel_any (w : World) (B K : Int) (wB : wfI B) (wK : wfI K) (A : Option Addr) (n c : Nat) (xs : List Sm) (h : Sl 2 eSm w (LT w.heap.size) A n xs) (hnm : n ≤ maxLen) :
    Calls Try.prog 50 #[.agg #[.int .i64 B, .int .i64 K], .slice A n c] w (PeelPost K w (peelKn B K xs)) := by
  by_cases hck : cutCheck B K = 0
  · obtain ⟨c1, c2, c3, c4, _⟩ := cutCheck_ok hck
    by_cases hn : n ≤ 60
    · obtain ⟨k, rfl⟩ := Int.eq_ofNat_of_zero_le (show 0 ≤ K by omega)
      obtain ⟨b, hb⟩ := Int.eq_ofNat_of_zero_le (show 0 ≤ blocksOf B k by omega)
      exact refPeel_good w B k b A n c xs h hn hck hb
    · have ED : Hid (peelKn B K xs = ([], 2)) := by
        unfold peelKn Hid
        rw [if_neg (by simp [hck]), if_pos (by rw [h.1]; omega)]
      have hn1 : decide ((60 : Int) < (n : Int)) = true := by simp; omega
      have hn2 : decide (60 < n) = true := by simp; omega
      have HC := Lib.hid hck
      unfold maxLen at hnm
      clear h hck c1 c2 c3 c4 hn
      go_enter Try.func50, Try.ntmps50
      go_wp2_with fail
      (with_reducible refine (refCheckPlan_any _ _ _ wB wK).mono ?_)
      rw [HC.out]
      rintro e v1 ⟨rfl, hf⟩
      have HF1 : Hid (Fr w v1) := Fr.trans (by (repeat' (first | exact Below.refl _ _ | refine below_drewN ?_ _ | refine Below.drew ?_ | refine frA ?_ _))) hf
      clear hf
      go_wp2_with fail
      go_ret2
      exact peelPost_err ED.out (by decide) HF1.out
  · obtain ⟨ck, hk⟩ : ∃ ck, ck = cutCheck B K := ⟨_, rfl⟩
    have ED : Hid (peelKn B K xs = ([], ck)) := by
      unfold peelKn Hid
      rw [if_pos hck, hk]
    have e1 : (ck != 0) = true := by rw [hk, bne_iff_ne]; exact hck
    have hc1 : Hid (ck ≠ 0) := by rw [hk]; exact hck
    (have Hk := Lib.hid hk; clear hk)
    clear h hck
    go_enter Try.func50, Try.ntmps50
    go_wp2_with fail
    (with_reducible refine (refCheckPlan_any _ _ _ wB wK).mono ?_)
    rw [← Hk.out]
    rintro e v1 ⟨rfl, hf⟩
    have HF1 : Hid (Fr w v1) := Fr.trans (by (repeat' (first | exact Below.refl _ _ | refine below_drewN ?_ _ | refine Below.drew ?_ | refine frA ?_ _))) hf
    clear hf
    go_wp2_with fail
    go_ret2
    exact peelPost_err ED.out hc1.out HF1.out
end Go.Proofs.Ytnfjghldcopaaaa
namespace Go.Proofs.Ytnfjghldcopaaaa
open Go.RowKit
attribute [local irreducible] wpList

theorem sameKn_some (w : World) (a b : Addr) (n c d : Nat) (l : List UInt8) (h : Sl 1 eByte w (LT w.heap.size) (some a) n l) (h' : Sl 1 eByte w (LT w.heap.size) (some b) n l) (hm : n ≤ maxLen) :
    Calls Try.prog 51 #[.slice (some a) n c, .slice (some b) n d] w fun e w' => e = .returned (.bool true) ∧ Fr w w' := by
  have H := Lib.hid h
  have H' := Lib.hid h'
  clear h h'
  go_enter Try.func51, Try.ntmps51
  go_wp2_with (first | (refine wpList_nil rfl (.tmp 5) 27 _ 5 rfl Try.underlying27 rfl false rfl ?_) | (refine wpList_nil rfl (.tmp 7) 27 _ 5 rfl Try.underlying27 rfl false rfl ?_) | (go_at_call 26; (with_reducible refine (equalBlock_any _ _ _ _ _ _ _ _ _ l l H.out H'.out hm).mono ?_); rintro e w1 ⟨rfl, mq, rfl⟩))
  go_ret
  exact ⟨retB (by simp), frDrewN _ _⟩
theorem sameKn_none (w : World) :
    Calls Try.prog 51 #[.slice none 0 0, .slice none 0 0] w fun e w' => e = .returned (.bool true) ∧ Fr w w' := by
  have H : Hid (Sl 1 eByte w (LT w.heap.size) none 0 []) := Sl.nil
  have hm : 0 ≤ maxLen := Nat.zero_le _
  go_enter Try.func51, Try.ntmps51
  go_wp2_with (first | (refine wpList_nil rfl (.tmp 5) 27 _ 5 rfl Try.underlying27 rfl true rfl ?_) | (refine wpList_nil rfl (.tmp 7) 27 _ 5 rfl Try.underlying27 rfl true rfl ?_) | (go_at_call 26; (with_reducible refine (equalBlock_any _ _ _ _ _ _ _ _ _ [] [] H.out H.out hm).mono ?_); rintro e w1 ⟨rfl, mq, rfl⟩))
  go_ret
  exact ⟨retB (by simp), frDrewN _ _⟩
set_option maxHeartbeats 1000000 in
theorem equalKn_any (w : World) (K g g' n : Nat) (S S' : Nat → Prop) (kn : Kn) (h : KnM K w S g kn) (h' : KnM K w S' g' kn) (hS : ∀ y, S y → y < w.heap.size) (hS' : ∀ y, S' y → y < w.heap.size) (hn : kn.length = n) (hn24 : n ≤ 24) (hK : K ≤ 16) :
    Calls Try.prog 23 #[.slice (some ⟨g, 0, none⟩) n n, .slice (some ⟨g', 0, none⟩) n n, .func (.func 51) #[] #[]] w fun e w' => e = .returned (.bool true) ∧ Fr w w' := by
  have hcf : ∀ (args : Array Value) (W : World), (callFunc 51 args).run Try.prog W = .ok (.enter 51 args) W := fun _ _ => by kernel_rfl
  have hne : ((n : Int) != (n : Int)) = false := by simp
  have hKm : K ≤ maxLen := by unfold maxLen; omega
  (have H := Lib.hid h; clear h; have H' := Lib.hid h'; clear h'; have HS := Lib.hid hS; clear hS; have HS' := Lib.hid hS'; clear hS'; have Hn := Lib.hid hn; clear hn)
  go_enter Try.func23, Try.ntmps23
  go_wp2_with fail
  go_loopw [17] (fun i wr => ∃ k : Nat, k ≤ n ∧ i = .int .i64 k ∧ Hid (Fr w wr)) (fun i _ => n - (intOf i).toNat)
  case atStart => exact ⟨0, Nat.zero_le _, rfl, Below.refl _ _⟩
  case round =>
    obtain ⟨k, hk, rfl, HF⟩ := hrel
    by_cases hlt : k < n
    · have h1 := H.out.fr HF.out HS.out
      have h2 := H'.out.fr HF.out HS'.out
      obtain ⟨x, hx⟩ : ∃ x, kn[k]? = some x := ⟨_, List.getElem?_eq_getElem (by have := Hn.out; omega)⟩
      cases x with
      | none =>
        have c1 := h1.none hx
        have c2 := h2.none hx
        clear h1 h2 hx
        go_wp2_with fail
        (with_reducible refine (sameKn_none _).mono ?_)
        rintro e w1 ⟨rfl, hf1⟩
        have HF1 : Hid (Fr w w1) := HF.out.trans hf1
        clear hf1 c1 c2
        go_wp2_with fail
        go_roundw
        case rel => exact ⟨k + 1, by omega, by go_num, HF1⟩
        case measure => simp [intOf]; omega
      | some l =>
        obtain ⟨ad, c, c1, _, s1⟩ := h1.some hx
        obtain ⟨ad', c', c2, _, s2⟩ := h2.some hx
        have s1 := Lib.hid (s1.more (S' := LT wr.heap.size) sByte fun y hy => Nat.lt_of_lt_of_le (HS.out y hy) HF.out.size)
        have s2 := Lib.hid (s2.more (S' := LT wr.heap.size) sByte fun y hy => Nat.lt_of_lt_of_le (HS'.out y hy) HF.out.size)
        clear h1 h2 hx
        go_wp2_with fail
        (with_reducible refine (sameKn_some _ _ _ _ _ _ l s1.out s2.out hKm).mono ?_)
        rintro e w1 ⟨rfl, hf1⟩
        have HF1 : Hid (Fr w w1) := HF.out.trans hf1
        clear hf1 c1 c2 s1 s2
        go_wp2_with fail
        go_roundw
        case rel => exact ⟨k + 1, by omega, by go_num, HF1⟩
        case measure => simp [intOf]; omega
    · go_wp2_with fail
      go_ret
      exact ⟨rfl, HF.out⟩
set_option maxHeartbeats 1000000 in
theorem equalKn_nil (w : World) :
    Calls Try.prog 23 #[.slice none 0 0, .slice none 0 0, .func (.func 51) #[] #[]] w fun e w' => e = .returned (.bool true) ∧ Fr w w' := by
  go_enter Try.func23, Try.ntmps23
  go_wp2_with fail
  go_loopw [17] (fun i wr => i = .int .i64 0 ∧ Hid (Fr w wr)) (fun i _ => 0)
  case atStart => exact ⟨rfl, Below.refl _ _⟩
  case round =>
    obtain ⟨rfl, HF⟩ := hrel
    go_wp2_with fail
    go_ret
    exact ⟨rfl, HF.out⟩

set_option maxRecDepth 100000 in
set_option maxHeartbeats 2000000 in
theorem peelSays_any (w : World) (B K : Int) (wB : wfI B) (wK : wfI K) (A : Option Addr) (n c : Nat) (xs : List Sm) (h : Sl 2 eSm w (LT w.heap.size) A n xs) (hl : n * 32 ≤ lim) (hnc : n ≤ c) (hcm : c ≤ maxLen) :
    Calls Try.prog 12 #[.agg #[.int .i64 B, .int .i64 K], .slice A n c] w fun e w' => e = .returned (.bool true) ∧ Fr w w' := by
  have hnm : n ≤ maxLen := by omega
  obtain ⟨R, hR⟩ : ∃ R, R = peelKn B K xs := ⟨_, rfl⟩
  have CK := Lib.hid (fun (W : World) (hs : Sl 2 eSm W (LT W.heap.size) A n xs) => peelKn_any W B K wB wK A n c xs hs hnm)
  have CR := Lib.hid (fun (W : World) (hs : Sl 2 eSm W (LT W.heap.size) A n xs) => refPeel_any W B K wB wK A n c xs hs hnm)
  rw [← hR] at CK CR
  have HKB : Hid (R.2 = 0 → K.toNat ≤ 16) := fun e => by
    rw [hR] at e
    unfold peelKn at e
    split at e
    · exact absurd e (by assumption)
    · rename_i h0
      have := (cutCheck_ok (B := B) (K := K) (by simpa using h0)).2.1
      omega
  (have HR := Lib.hid hR; clear hR; have H := Lib.hid h; clear h)
  go_enter Try.func12, Try.ntmps12
  go_wp2_with fail
  (with_reducible refine (CK.out _ (H.out.go sSm (by (repeat' (first | exact Below.refl _ _ | refine below_drewN ?_ _ | refine Below.drew ?_ | refine frA ?_ _))))).mono ?_)
  rintro e v1 ⟨hf, hp⟩
  have HP1 : Hid (v1.heap[w.heap.size]? = some (.cells #[.int .i64 B, .int .i64 K] 47 (0, 0))) := blk_go (by (repeat' (with_reducible (first | (refine heap_new ?_; (first | (simp; done) | rfl); done) | refine heap_dn ?_ | refine heap_d ?_ | refine heap_old ?_)))) hf
  have HF1 : Hid (Fr w v1) := Fr.trans (by (repeat' (first | exact Below.refl _ _ | refine below_drewN ?_ _ | refine Below.drew ?_ | refine frA ?_ _))) hf
  have hp1 := HP1.out
  (obtain ⟨x0, x1⟩ := box2_ hp1)
  clear hf hp1
  rcases hp with ⟨r1, r2, rfl⟩ | ⟨r2, g1, m1, rfl, hm1, ⟨l1, l2⟩, hk1⟩
  · obtain ⟨er, her⟩ : ∃ er, er = R.2 := ⟨_, rfl⟩
    rw [← her]
    have HE : Hid (R.2 = er) := her.symm
    have HZ : Hid (er ≠ 0) := by rw [her]; exact r2
    clear her r2 r1
    go_wp2_with fail
    (with_reducible refine (CR.out _ (H.out.go sSm HF1.out)).mono ?_)
    rintro e v2 ⟨hf, hp⟩
    have HF2 : Hid (Fr w v2) := HF1.out.trans hf
    rcases hp with ⟨r1, r2, rfl⟩ | ⟨r2, _⟩
    · rw [HE.out]
      clear r1 r2 hf
      have e1 : (er == er) = true := by simp
      go_wp2_with fail
      (with_reducible refine (peeled_any _).mono ?_)
      rintro e v3 ⟨rfl, hf3⟩
      have HF3 : Hid (Fr w v3) := HF2.out.trans hf3
      clear hf3
      go_wp2_with fail
      (with_reducible refine (equalKn_nil _).mono ?_)
      rintro e v4 ⟨rfl, hf4⟩
      have HF4 : Hid (Fr w v4) := HF3.out.trans hf4
      clear hf4
      go_wp2_with fail
      go_ret
      exact ⟨rfl, HF4.out⟩
    · exact absurd (HE.out.symm.trans r2) HZ.out
  · have HZ : Hid (R.2 = 0) := r2
    have HK1 := Lib.hid hk1
    obtain ⟨kn, hkn⟩ : ∃ kn, kn = R.1 := ⟨_, rfl⟩
    rw [← hkn] at HK1 hm1
    have HKN := Lib.hid hkn
    clear r2 hk1 hkn
    go_wp2_with fail
    (with_reducible refine (CR.out _ (H.out.go sSm HF1.out)).mono ?_)
    rintro e v2 ⟨hf, hp⟩
    have HF2 : Hid (Fr w v2) := HF1.out.trans hf
    have HK2 := Lib.hid (HK1.out.fr hf fun y hy => hy.1)
    have hs12 := hf.size
    rcases hp with ⟨r1, r2, rfl⟩ | ⟨r2, g2, m2, rfl, hm2, _, hk2⟩
    · exact absurd HZ.out r2
    · rw [← HKN.out] at hk2 hm2
      obtain rfl : m2 = m1 := hm2.symm.trans hm1
      have HK3 := Lib.hid hk2
      have e1 : ((0 : Int) == 0) = true := by simp
      (have Hm1 := Lib.hid hm1; clear hm1)
      clear r2 hf hk2 hm2
      go_wp2_with fail
      (with_reducible refine (peeled_any _).mono ?_)
      rintro e v3 ⟨rfl, hf3⟩
      have HF3 : Hid (Fr w v3) := HF2.out.trans hf3
      have HK4 := Lib.hid (HK2.out.fr hf3 fun y hy => Nat.lt_of_lt_of_le hy.1 hs12)
      have HK5 := Lib.hid (HK3.out.fr hf3 fun y hy => hy.1)
      have hs23 := hf3.size
      clear hf3
      go_wp2_with fail
      (with_reducible refine (equalKn_any _ K.toNat g1 g2 m2 _ _ kn HK4.out HK5.out (fun y hy => Nat.lt_of_lt_of_le hy.1 (Nat.le_trans hs12 hs23)) (fun y hy => Nat.lt_of_lt_of_le hy.1 hs23) Hm1.out l2 (HKB.out HZ.out)).mono ?_)
      rintro e v4 ⟨rfl, hf4⟩
      have HF4 : Hid (Fr w v4) := HF3.out.trans hf4
      clear hf4
      go_wp2_with fail
      go_ret
      exact ⟨rfl, HF4.out⟩
end Go.Proofs.Ytnfjghldcopaaaa
namespace Go.Proofs.Ytnfjghldcopaaaa.peelSaysLaw
open Go.ChangeShapes Go.WideShapes Go.ChangeAt Go.RowKit

set_option maxRecDepth 100000 in
theorem lifted (os : Os) (started : os.Started) (H : Type) (enc : TypeId × Value → H) :
    ReturnsInHanded {} Try.checked os 12 .any (Rows.peelSaysSpec.pre6 enc Try.prog Try.f12 Rows.peelSaysRow.domain false) (Rows.peelSaysSpec.post enc Try.prog Try.f12 false true false false) := by
  refine returnsInHanded_of_change_sized (C := Try.checked) own started (by kernel_rfl) Try.func12
    (ChangeSpec.witness6 (enc := enc) (C := Try.checked) false ⟨#[], #[.agg #[.int .i64 0, .int .i64 0], .slice none 0 0], []⟩ 8 (by kernel_rfl) (by kernel_rfl) (by kernel_rfl) (by kernel_rfl)) ?_
  intro W base args ds gs before hval0 hW hcnd hsz0 _
  have hval : ∀ (j : Nat) t v, Try.f12.params[j]? = some t → args[j]? = some v → Value.okWide Try.prog W .any base t v := hval0
  have hsz : (DataW.weightsEach Try.prog (Try.f12.params.toList ++ Rows.peelSaysSpec.plain.varTypes Try.prog) (ds ++ gs)).all (· ≤ reachBytes) = true := hsz0
  have hW' := hW
  obtain ⟨p, q, hA0, hV, rfl, hfz, hnd⟩ := hW
  have hA : DataW.TrodAll enc Try.prog W 0 (fun _ => true) true Try.f12.params.toList args.toList ds p := hA0
  rw [Try.params12] at hA hval hsz
  obtain ⟨v0, vs0, d0, ds0, p0, q0, hargs, rfl, rfl, h0, r0⟩ := trodAll_cons hA
  obtain ⟨v1, vs1, d1, ds1, p1, q1, rfl, rfl, rfl, h1, r1⟩ := trodAll_cons r0
  obtain ⟨rfl, rfl, rfl⟩ := trodAll_nil r1
  obtain rfl : args = #[v0, v1] := by cases args; simp_all
  obtain ⟨rfl, rfl⟩ := trodVars_none hV
  have k0 := h0
  have lt0 : ∀ x ∈ p0, x.block < W.heap.size := by obtain ⟨m, hm⟩ := k0; exact DataW.trod_lt m _ _ _ hm
  have s0 : ∀ n ∈ d0.weights Try.prog 47, n ≤ reachBytes := fun n hn => of_decide_eq_true (List.all_eq_true.1 hsz n (DataW.weights_mem_each (j := 0) rfl rfl n hn))
  obtain ⟨B0, K0, rfl, wB0, wK0⟩ := openPlan (hval 0 47 v0 rfl rfl) h0
  have k1 := h1
  have lt1 : ∀ x ∈ p1, x.block < W.heap.size := by obtain ⟨m, hm⟩ := k1; exact DataW.trod_lt m _ _ _ hm
  have s1 : ∀ n ∈ d1.weights Try.prog 50, n ≤ reachBytes := fun n hn => of_decide_eq_true (List.all_eq_true.1 hsz n (DataW.weights_mem_each (j := 1) rfl rfl n hn))
  obtain ⟨A1, n1, c1, rfl⟩ := okWide_slice Try.underlying50 (hval 1 50 v1 rfl rfl)
  obtain ⟨y1, hy1⟩ : ∃ y, (eSl 2 32 eSm) W (LT W.heap.size) (fun j => [Value.slice A1 n1 c1][j]?) y := by obtain ⟨fuel, hf⟩ := h1; exact (openSyms _ _ _ _ _ _ hf s1).2
  obtain ⟨_, _, _, e1, ⟨l1, lc1, lm1⟩, hs1⟩ := hy1; simp at e1; obtain ⟨rfl, rfl, rfl⟩ := e1
  clear hA0 hval0
  refine (peelSays_any W B0 K0 wB0 wK0 A1 n1 c1 y1 hs1 l1 lc1 lm1).mono fun e W' ⟨he, bel⟩ => ?_
  subst he
  exact ⟨_, rfl, _, _, _, [], _, [], hW', trodAll_mk1 (shut_bool Try.underlying4 _), (trodAll_cons_mk (Below.trod laidOut (by kernel_rfl) (of_decide_eq_true (by kernel_rfl)) k0 bel lt0) (trodAll_cons_mk (Below.trod laidOut (by kernel_rfl) (of_decide_eq_true (by kernel_rfl)) k1 bel lt1) trodAll_mk0)), rfl, bel.frame _, fun h => by cases h⟩

/-- The statement: the law answers true for every input. -/
theorem proved : Rows.PeelSaysSaid :=
  OpenClaim.holds_of_wide 12 Try.f12 rfl rfl rfl rfl rfl rfl rfl ⟨rfl, rfl, rfl, rfl, rfl⟩ rfl rfl rfl rfl rfl (by kernel_rfl) Try.func12 (by kernel_rfl)
    (of_decide_eq_true (by kernel_rfl)) (by unfold Func.isWrapper; first | (rw [if_pos (by decide +kernel)]; kernel_rfl) | (rw [if_neg (by decide +kernel)]; exact ⟨rfl, rfl⟩))
    (fun os started H enc _ => lifted os started H enc)
#print axioms proved
end Go.Proofs.Ytnfjghldcopaaaa.peelSaysLaw
