/- Plain laws of symbols peeled one by one. No condition; no program in sight. -/
import Derived.Test.YtnfjghldcopaaaaNeverP
set_option linter.unusedSimpArgs false
set_option linter.unusedVariables false
namespace Go.Proofs.Ytnfjghldcopaaaa

/-- What is known of each block. -/
abbrev Kn := List (Option (List UInt8))
def Kn.isK (kn : Kn) (k : Nat) : Bool := (kn.getD k none).isSome
/-- Which of the first so many blocks that are in aren't known; the ones that are. -/
def miss (has : List Bool) (kn : Kn) (m : Nat) : List Nat := (List.range m).filter fun k => has.getD k false && !kn.isK k
def got (has : List Bool) (kn : Kn) (m : Nat) : List (List UInt8) := (List.range m).filterMap fun k => if has.getD k false then kn.getD k none else none
theorem miss_succ (has : List Bool) (kn : Kn) (m : Nat) : miss has kn (m + 1) = miss has kn m ++ if has.getD m false && !kn.isK m then [m] else [] := by
  unfold miss
  rw [List.range_succ, List.filter_append]
  congr 1
  cases h : (has.getD m false && !kn.isK m) <;> simp only [List.filter, h, if_true, Bool.false_eq_true, if_false]
theorem got_succ (has : List Bool) (kn : Kn) (m : Nat) : got has kn (m + 1) = got has kn m ++ (if has.getD m false then (kn.getD m none).toList else []) := by
  unfold got
  rw [List.range_succ, List.filterMap_append]
  congr 1
  cases h : has.getD m false <;> cases h2 : kn.getD m none <;> simp only [List.filterMap, h, h2, if_true, Bool.false_eq_true, if_false, Option.toList]
theorem got_mem {has : List Bool} {kn : Kn} {m : Nat} {l : List UInt8} (h : l ∈ got has kn m) : ∃ k : Nat, kn[k]? = some (some l) := by
  obtain ⟨k, _, hk⟩ := List.mem_filterMap.1 h
  refine ⟨k, ?_⟩
  split at hk
  · rw [List.getD_eq_getElem?_getD] at hk
    cases h2 : kn[k]? with
    | none => rw [h2] at hk; simp at hk
    | some x => rw [h2] at hk; simp at hk; rw [hk]
  · cases hk
theorem length_got (has : List Bool) (kn : Kn) (m : Nat) : (got has kn m).length ≤ m := by
  have := List.length_filterMap_le (fun k => if has.getD k false then kn.getD k none else none) (List.range m)
  simpa [got] using this
theorem length_miss (has : List Bool) (kn : Kn) (m : Nat) : (miss has kn m).length ≤ m := by
  have := List.length_filter_le (fun k => has.getD k false && !kn.isK k) (List.range m)
  simpa [miss] using this
/-- All that is known is as long as a block. -/
def KnLen (K : Nat) (kn : Kn) : Prop := ∀ (k : Nat) l, kn[k]? = some (some l) → l.length = K
/-- What a symbol with one block unknown tells. -/
def told (has : List Bool) (d : List UInt8) (kn : Kn) : List UInt8 := (sumAdd (d :: got has kn kn.length)).1
/-- One symbol. -/
def pOne (kn : Kn) (x : Sm) : Kn × List Sm × Bool :=
  if (miss (pickHas x.id.toNat kn.length) kn kn.length).length = 1 then (kn.set ((miss (pickHas x.id.toNat kn.length) kn kn.length).getLastD 0) (some (told (pickHas x.id.toNat kn.length) x.data kn)), [], true)
  else if 1 < (miss (pickHas x.id.toNat kn.length) kn kn.length).length then (kn, [x], false) else (kn, [], false)
def pRound : Kn → List Sm → Kn × List Sm × Bool
  | kn, [] => (kn, [], false)
  | kn, x :: xs => ((pRound (pOne kn x).1 xs).1, (pOne kn x).2.1 ++ (pRound (pOne kn x).1 xs).2.1, (pOne kn x).2.2 || (pRound (pOne kn x).1 xs).2.2)
def pRun : Nat → Kn → List Sm → Kn
  | 0, kn, _ => kn
  | f + 1, kn, xs => if (pRound kn xs).2.2 then pRun f (pRound kn xs).1 (pRound kn xs).2.1 else (pRound kn xs).1
def peelF (b : Nat) (xs : List Sm) : Kn := pRun (b + 1) (List.replicate b none) xs

theorem isK_set {kn : Kn} {a k : Nat} {l : List UInt8} (ha : a < kn.length) : Kn.isK (kn.set a (some l)) k = (kn.isK k || decide (k = a)) := by
  unfold Kn.isK
  rw [List.getD_eq_getElem?_getD, List.getD_eq_getElem?_getD, List.getElem?_set]
  by_cases h : a = k
  · subst h; simp [ha]
  · have h' : ¬ k = a := fun e => h e.symm
    simp [h, h']
theorem isK_iff {kn : Kn} {k : Nat} : kn.isK k = true ↔ ∃ l, kn[k]? = some (some l) := by
  unfold Kn.isK
  rw [List.getD_eq_getElem?_getD]
  cases h : kn[k]? with
  | none => simp
  | some x => cases x <;> simp
theorem isK_lt {kn : Kn} {k : Nat} (h : kn.isK k = true) : k < kn.length := by
  obtain ⟨l, h⟩ := isK_iff.1 h
  exact (List.getElem?_eq_some_iff.1 h).1
theorem mem_miss {has : List Bool} {kn : Kn} {m k : Nat} : k ∈ miss has kn m ↔ k < m ∧ has.getD k false = true ∧ kn.isK k = false := by
  simp [miss]
/-- The one that is lacking. -/
theorem one_miss {has : List Bool} {kn : Kn} {m : Nat} (h : (miss has kn m).length = 1) : ∃ a, miss has kn m = [a] ∧ (miss has kn m).getLastD 0 = a ∧ a < m ∧ has.getD a false = true ∧ kn.isK a = false := by
  obtain ⟨a, e⟩ := List.length_eq_one_iff.1 h
  refine ⟨a, e, by rw [e]; rfl, ?_⟩
  exact mem_miss.1 (by rw [e]; simp)
theorem miss_le {has : List Bool} {kn kn' : Kn} {m : Nat} (h : ∀ k, kn.isK k = true → kn'.isK k = true) : (miss has kn' m).length ≤ (miss has kn m).length := by
  unfold miss
  rw [← List.countP_eq_length_filter, ← List.countP_eq_length_filter]
  refine List.countP_mono_left fun k _ hk => ?_
  simp only [Bool.and_eq_true, Bool.not_eq_true'] at hk ⊢
  refine ⟨hk.1, ?_⟩
  cases e : kn.isK k with
  | false => rfl
  | true => rw [h k e] at hk; exact absurd hk.2 (by simp)

theorem pOne_cases (kn : Kn) (x : Sm) :
    (∃ a, (miss (pickHas x.id.toNat kn.length) kn kn.length) = [a] ∧ a < kn.length ∧ (pickHas x.id.toNat kn.length).getD a false = true ∧ kn.isK a = false ∧ pOne kn x = (kn.set a (some (told (pickHas x.id.toNat kn.length) x.data kn)), [], true)) ∨
    (1 < (miss (pickHas x.id.toNat kn.length) kn kn.length).length ∧ pOne kn x = (kn, [x], false)) ∨ ((miss (pickHas x.id.toNat kn.length) kn kn.length).length = 0 ∧ pOne kn x = (kn, [], false)) := by
  unfold pOne
  by_cases h1 : (miss (pickHas x.id.toNat kn.length) kn kn.length).length = 1
  · obtain ⟨a, e, e2, h3, h4, h5⟩ := one_miss h1
    exact .inl ⟨a, e, h3, h4, h5, by rw [if_pos h1, e2]⟩
  · rw [if_neg h1]
    by_cases h2 : 1 < (miss (pickHas x.id.toNat kn.length) kn kn.length).length
    · exact .inr (.inl ⟨h2, if_pos h2⟩)
    · exact .inr (.inr ⟨by omega, if_neg h2⟩)
theorem pOne_len (kn : Kn) (x : Sm) : (pOne kn x).1.length = kn.length := by
  rcases pOne_cases kn x with ⟨a, _, _, _, _, e⟩ | ⟨_, e⟩ | ⟨_, e⟩ <;> rw [e] <;> simp
theorem pRound_len : ∀ (xs : List Sm) (kn : Kn), (pRound kn xs).1.length = kn.length
  | [], _ => rfl
  | x :: xs, kn => by rw [pRound]; show (pRound (pOne kn x).1 xs).1.length = _; rw [pRound_len xs, pOne_len]
theorem pOne_grows {kn : Kn} {x : Sm} {k : Nat} (h : kn.isK k = true) : (pOne kn x).1.isK k = true := by
  rcases pOne_cases kn x with ⟨a, _, ha, _, _, e⟩ | ⟨_, e⟩ | ⟨_, e⟩
  · rw [e]; show Kn.isK (kn.set a _) k = true; rw [isK_set ha, h]; rfl
  · rw [e]; exact h
  · rw [e]; exact h
theorem pRound_grows : ∀ {xs : List Sm} {kn : Kn} {k : Nat}, kn.isK k = true → (pRound kn xs).1.isK k = true
  | [], _, _, h => h
  | x :: xs, kn, k, h => pRound_grows (xs := xs) (pOne_grows h)
theorem pRound_left : ∀ {xs : List Sm} {kn : Kn} {y : Sm}, y ∈ (pRound kn xs).2.1 → y ∈ xs
  | [], _, _, h => h
  | x :: xs, kn, y, h => by
    rcases List.mem_append.1 (show y ∈ (pOne kn x).2.1 ++ _ from h) with h | h
    · rcases pOne_cases kn x with ⟨a, _, _, _, _, e⟩ | ⟨_, e⟩ | ⟨_, e⟩ <;> rw [e] at h <;> simp at h
      subst h; simp
    · exact List.mem_cons_of_mem _ (pRound_left h)
theorem pRound_left_len : ∀ (xs : List Sm) (kn : Kn), (pRound kn xs).2.1.length ≤ xs.length
  | [], _ => Nat.le_refl _
  | x :: xs, kn => by
    have := pRound_left_len xs (pOne kn x).1
    rw [pRound]
    show ((pOne kn x).2.1 ++ (pRound (pOne kn x).1 xs).2.1).length ≤ _
    rcases pOne_cases kn x with ⟨a, _, _, _, _, e⟩ | ⟨_, e⟩ | ⟨_, e⟩ <;> rw [e] at this ⊢ <;> dsimp only at this ⊢ <;> simp only [List.nil_append, List.cons_append, List.length_cons] <;> omega
/-- How many aren't known yet. -/
def nones (kn : Kn) : Nat := kn.countP fun x => x.isNone
theorem nones_set {kn : Kn} {a : Nat} {l : List UInt8} (ha : a < kn.length) (h : kn.isK a = false) : nones (kn.set a (some l)) + 1 = nones kn := by
  unfold nones
  rw [List.countP_set ha]
  have h1 : kn[a] = none := by
    unfold Kn.isK at h
    rw [List.getD_eq_getElem?_getD, List.getElem?_eq_getElem ha] at h
    simpa using h
  have h2 : 0 < kn.countP fun x => x.isNone := List.countP_pos_iff.2 ⟨kn[a], List.getElem_mem ha, by rw [h1]; rfl⟩
  simp [h1]
  omega
theorem pOne_nones (kn : Kn) (x : Sm) : nones (pOne kn x).1 + (if (pOne kn x).2.2 then 1 else 0) = nones kn := by
  rcases pOne_cases kn x with ⟨a, _, ha, _, h, e⟩ | ⟨_, e⟩ | ⟨_, e⟩
  · rw [e]; exact nones_set ha h
  · rw [e]; rfl
  · rw [e]; rfl
theorem pRound_nones : ∀ (xs : List Sm) (kn : Kn), nones (pRound kn xs).1 + (if (pRound kn xs).2.2 then 1 else 0) ≤ nones kn
  | [], _ => Nat.le_refl _
  | x :: xs, kn => by
    have h1 := pOne_nones kn x
    have h2 := pRound_nones xs (pOne kn x).1
    rw [pRound]
    show nones (pRound (pOne kn x).1 xs).1 + (if ((pOne kn x).2.2 || (pRound (pOne kn x).1 xs).2.2) then 1 else 0) ≤ _
    cases e1 : (pOne kn x).2.2 <;> cases e2 : (pRound (pOne kn x).1 xs).2.2 <;> simp [e1, e2] at h1 h2 ⊢ <;> omega
/-- Nothing that came: all is as it was, and no symbol has one unknown. -/
theorem pRound_still : ∀ {xs : List Sm} {kn : Kn}, (pRound kn xs).2.2 = false → (pRound kn xs).1 = kn ∧ ∀ x ∈ xs, (miss (pickHas x.id.toNat kn.length) kn kn.length).length ≠ 1
  | [], _, _ => ⟨rfl, fun _ h => by cases h⟩
  | x :: xs, kn, h => by
    rw [pRound] at h ⊢
    obtain ⟨h1, h2⟩ := Bool.or_eq_false_iff.1 h
    obtain ⟨e, h3⟩ := pRound_still h2
    rcases pOne_cases kn x with ⟨a, _, _, _, _, e1⟩ | ⟨hm, e1⟩ | ⟨hm, e1⟩
    · rw [e1] at h1; cases h1
    · rw [e1] at e h3
      refine ⟨by show (pRound (pOne kn x).1 xs).1 = kn; rw [e1]; exact e, fun y hy => ?_⟩
      rcases List.mem_cons.1 hy with rfl | hy
      · omega
      · exact h3 y hy
    · rw [e1] at e h3
      refine ⟨by show (pRound (pOne kn x).1 xs).1 = kn; rw [e1]; exact e, fun y hy => ?_⟩
      rcases List.mem_cons.1 hy with rfl | hy
      · omega
      · exact h3 y hy
/-- What is left out has nothing unknown. -/
theorem pRound_drop : ∀ {xs : List Sm} {kn : Kn} {x : Sm}, x ∈ xs → x ∈ (pRound kn xs).2.1 ∨ (miss (pickHas x.id.toNat kn.length) (pRound kn xs).1 kn.length).length = 0
  | y :: xs, kn, x, h => by
    rw [pRound]
    show x ∈ (pOne kn y).2.1 ++ (pRound (pOne kn y).1 xs).2.1 ∨ (miss _ (pRound (pOne kn y).1 xs).1 _).length = 0
    rcases List.mem_cons.1 h with rfl | h
    · rcases pOne_cases kn x with ⟨a, hm, ha, _, _, e⟩ | ⟨_, e⟩ | ⟨hm, e⟩
      · right
        have h1 : ∀ k, (pOne kn x).1.isK k = true → (pRound (pOne kn x).1 xs).1.isK k = true := fun k hk => pRound_grows hk
        have h2 := miss_le (has := pickHas x.id.toNat kn.length) (m := kn.length) h1
        have h3 : (miss (pickHas x.id.toNat kn.length) (pOne kn x).1 kn.length) = [] := by
          rw [List.eq_nil_iff_forall_not_mem]
          intro k hk
          obtain ⟨k1, k2, k3⟩ := mem_miss.1 hk
          rw [e] at k3
          replace k3 : Kn.isK (kn.set a _) k = false := k3
          rw [isK_set ha, Bool.or_eq_false_iff] at k3
          have : k ∈ miss (pickHas x.id.toNat kn.length) kn kn.length := mem_miss.2 ⟨k1, k2, k3.1⟩
          rw [hm, List.mem_singleton] at this
          simp [this] at k3
        rw [h3] at h2
        simpa using h2
      · left; rw [e]; simp
      · right
        have h1 : ∀ k, kn.isK k = true → (pRound (pOne kn x).1 xs).1.isK k = true := fun k hk => pRound_grows (pOne_grows hk)
        have h2 := miss_le (has := pickHas x.id.toNat kn.length) (m := kn.length) h1
        omega
    · rcases pRound_drop (kn := (pOne kn y).1) h with h1 | h1
      · exact .inl (List.mem_append_right _ h1)
      · rw [pOne_len] at h1; exact .inr h1
theorem pRun_len : ∀ (f : Nat) (xs : List Sm) (kn : Kn), (pRun f kn xs).length = kn.length
  | 0, _, _ => rfl
  | f + 1, xs, kn => by
    rw [pRun]; split
    · rw [pRun_len f, pRound_len]
    · rw [pRound_len]
theorem pRun_grows : ∀ {f : Nat} {xs : List Sm} {kn : Kn} {k : Nat}, kn.isK k = true → (pRun f kn xs).isK k = true
  | 0, _, _, _, h => h
  | f + 1, xs, kn, k, h => by
    rw [pRun]; split
    · exact pRun_grows (pRound_grows h)
    · exact pRound_grows h
/-- In the end no symbol has one unknown. -/
theorem pRun_closed : ∀ {f : Nat} {xs : List Sm} {kn : Kn}, nones kn < f → ∀ x ∈ xs, (miss (pickHas x.id.toNat kn.length) (pRun f kn xs) kn.length).length ≠ 1
  | 0, _, _, h, _, _ => absurd h (Nat.not_lt_zero _)
  | f + 1, xs, kn, h, x, hx => by
    rw [pRun]
    have hn := pRound_nones xs kn
    cases hm : (pRound kn xs).2.2 with
    | true =>
      rw [hm] at hn
      simp at hn
      rw [if_pos rfl]
      rcases pRound_drop (kn := kn) hx with h1 | h1
      · have := pRun_closed (f := f) (xs := (pRound kn xs).2.1) (kn := (pRound kn xs).1) (by omega) x h1
        rw [pRound_len] at this
        exact this
      · have := miss_le (has := pickHas x.id.toNat kn.length) (kn := (pRound kn xs).1) (kn' := pRun f (pRound kn xs).1 (pRound kn xs).2.1) (m := kn.length) (fun k hk => pRun_grows hk)
        omega
    | false =>
      rw [if_neg (by simp)]
      obtain ⟨e, h1⟩ := pRound_still hm
      rw [e]
      exact h1 x hx
/-- Nothing is known that isn't in what is closed. -/
theorem pOne_in {T : Kn} {kn : Kn} {x : Sm} (hl : T.length = kn.length) (h : ∀ k, kn.isK k = true → T.isK k = true) (hx : (miss (pickHas x.id.toNat T.length) T T.length).length ≠ 1) : ∀ k, (pOne kn x).1.isK k = true → T.isK k = true := by
  intro k hk
  rcases pOne_cases kn x with ⟨a, hm, ha, hha, _, e⟩ | ⟨_, e⟩ | ⟨_, e⟩
  · rw [e] at hk
    replace hk : Kn.isK (kn.set a _) k = true := hk
    rw [isK_set ha, Bool.or_eq_true] at hk
    rcases hk with hk | hk
    · exact h k hk
    · obtain rfl := of_decide_eq_true hk
      rw [hl] at hx
      have h2 := miss_le (has := pickHas x.id.toNat kn.length) (m := kn.length) h
      rw [hm] at h2
      have h3 : (miss (pickHas x.id.toNat kn.length) T kn.length) = [] := List.length_eq_zero_iff.1 (by simp at h2; omega)
      cases e2 : T.isK k with
      | true => rfl
      | false =>
        have : k ∈ miss (pickHas x.id.toNat kn.length) T kn.length := mem_miss.2 ⟨ha, hha, e2⟩
        rw [h3] at this; cases this
  · rw [e] at hk; exact h k hk
  · rw [e] at hk; exact h k hk
theorem pRound_in {T : Kn} : ∀ {xs : List Sm} {kn : Kn}, T.length = kn.length → (∀ k, kn.isK k = true → T.isK k = true) → (∀ x ∈ xs, (miss (pickHas x.id.toNat T.length) T T.length).length ≠ 1) → ∀ k, (pRound kn xs).1.isK k = true → T.isK k = true
  | [], _, _, h, _ => h
  | x :: xs, kn, hl, h, hx => pRound_in (xs := xs) (by rw [pOne_len]; exact hl) (pOne_in hl h (hx x (by simp))) fun y hy => hx y (List.mem_cons_of_mem _ hy)
theorem pRun_in {T : Kn} : ∀ {f : Nat} {xs : List Sm} {kn : Kn}, T.length = kn.length → (∀ k, kn.isK k = true → T.isK k = true) → (∀ x ∈ xs, (miss (pickHas x.id.toNat T.length) T T.length).length ≠ 1) → ∀ k, (pRun f kn xs).isK k = true → T.isK k = true
  | 0, _, _, _, h, _ => h
  | f + 1, xs, kn, hl, h, hx => by
    intro k hk
    rw [pRun] at hk
    split at hk
    · exact pRun_in (f := f) (by rw [pRound_len]; exact hl) (pRound_in hl h hx) (fun y hy => hx y (pRound_left hy)) k hk
    · exact pRound_in hl h hx k hk
theorem length_peelF (b : Nat) (xs : List Sm) : (peelF b xs).length = b := by unfold peelF; rw [pRun_len]; simp
/-- With more symbols no less is known. -/
theorem peel_more {b : Nat} {xs ys : List Sm} (hle : ∀ x ∈ xs, x ∈ ys) {k : Nat} (h : (peelF b xs).isK k = true) : (peelF b ys).isK k = true := by
  refine pRun_in (T := peelF b ys) (by rw [length_peelF]; simp) (fun k hk => ?_) (fun x hx => ?_) k h
  · obtain ⟨l, hk⟩ := isK_iff.1 hk
    rw [List.getElem?_replicate] at hk
    split at hk <;> cases hk
  · rw [length_peelF]
    have := pRun_closed (f := b + 1) (xs := ys) (kn := List.replicate b none) (by unfold nones; rw [List.countP_replicate]; simp) x (hle x hx)
    unfold peelF
    simpa using this

/-- The row that says a block. -/
def uv (k : Nat) (x : List UInt8) : Vc := ⟨fun i => decide (i = k), fun i => x.getD i 0⟩
/-- Each block that is known is told by the symbols. -/
def Says (G : Vc → Prop) (kn : Kn) : Prop := ∀ (k : Nat) x, kn[k]? = some (some x) → Span G (uv k x)
theorem got_span {G : Vc → Prop} (h0 : Span G Vc.zero) {kn : Kn} (h : Says G kn) (has : List Bool) : ∀ m, ∃ v, Span G v ∧ (∀ i, v.h i = (decide (i < m) && has.getD i false && kn.isK i)) ∧ ∀ i, v.d i = (got has kn m).foldr (fun l a => l.getD i 0 ^^^ a) 0
  | 0 => ⟨Vc.zero, h0, fun i => by simp [Vc.zero], fun i => rfl⟩
  | m + 1 => by
    obtain ⟨v, h1, h2, h3⟩ := got_span h0 h has m
    have hf : ∀ (l : List (List UInt8)) (y : List UInt8) (i : Nat), (l ++ [y]).foldr (fun l a => l.getD i 0 ^^^ a) 0 = (l.foldr (fun l a => l.getD i 0 ^^^ a) 0 ^^^ y.getD i 0) := by
      intro l y i
      induction l with
      | nil => simp
      | cons z l ih => simp only [List.cons_append, List.foldr_cons, ih, UInt8.xor_assoc]
    by_cases hh : has.getD m false = true ∧ kn.isK m = true
    · obtain ⟨x, hx⟩ := isK_iff.1 hh.2
      refine ⟨v + uv m x, h1.plus (h m x hx), fun i => ?_, fun i => ?_⟩
      · rw [Vc.add_h, h2]
        show (_ ^^ decide (i = m)) = _
        rcases Nat.lt_trichotomy i m with h4 | h4 | h4
        · simp [h4, show i < m + 1 by omega, show i ≠ m by omega]
        · subst h4; simp only [hh.1, hh.2, Nat.lt_irrefl, decide_false, Bool.false_and, decide_true]; simp
        · simp [show ¬ i < m by omega, show ¬ i < m + 1 by omega, show i ≠ m by omega]
      · have e : kn.getD m none = some x := by rw [List.getD_eq_getElem?_getD, hx]; rfl
        rw [Vc.add_d, h3, got_succ, hh.1, if_pos rfl, e]
        show _ = (got has kn m ++ [x]).foldr _ 0
        rw [hf]; rfl
    · refine ⟨v, h1, fun i => ?_, fun i => ?_⟩
      · rw [h2]
        rcases Nat.lt_trichotomy i m with h4 | h4 | h4
        · simp [h4, show i < m + 1 by omega]
        · subst h4
          have : (has.getD i false && kn.isK i) = false := by
            cases e1 : has.getD i false <;> cases e2 : kn.isK i <;> simp_all
          simp only [Bool.and_assoc, this, Bool.and_false]
        · simp [show ¬ i < m by omega, show ¬ i < m + 1 by omega]
      · rw [h3, got_succ]
        have : (if has.getD m false = true then (kn.getD m none).toList else []) = [] := by
          split
          · rename_i h5
            have h6 : kn.isK m = false := by
              cases e2 : kn.isK m
              · rfl
              · exact absurd ⟨h5, e2⟩ hh
            unfold Kn.isK at h6
            cases e3 : kn.getD m none with
            | none => rfl
            | some y => rw [e3] at h6; cases h6
          · rfl
        rw [this, List.append_nil]
/-- What a symbol tells with what is known. -/
theorem told_facts {K : Nat} (hK : 1 ≤ K ∧ K ≤ 16) {kn : Kn} (hl : KnLen K kn) (has : List Bool) {d : List UInt8} (hd : d.length = K) :
    sumAdd (d :: got has kn kn.length) = (told has d kn, 0) ∧ (told has d kn).length = K ∧ ∀ i, (told has d kn).getD i 0 = (d.getD i 0 ^^^ (got has kn kn.length).foldr (fun l a => l.getD i 0 ^^^ a) 0) := by
  have hall : ∀ l ∈ d :: got has kn kn.length, l.length = K := by
    intro l hl2
    rcases List.mem_cons.1 hl2 with rfl | hl2
    · exact hd
    · obtain ⟨k, hk⟩ := got_mem hl2
      exact hl k l hk
  have hc : sumCheck (d :: got has kn kn.length) = 0 := by
    unfold sumCheck
    exact sumCheckFrom_of (n0 := K) (by omega) (by omega) hall |> (by rw [List.headD_cons, hd]; exact ·)
  have e : sumAdd (d :: got has kn kn.length) = (xorAll K (d :: got has kn kn.length), 0) := by
    rw [sumAdd, if_neg (by simp [hc]), if_neg (by simp), List.headD_cons, hd]
  have et : told has d kn = xorAll K (d :: got has kn kn.length) := by unfold told; rw [e]
  refine ⟨by rw [e, et], by rw [et]; exact length_xorAll hall (by simp [zeros]), fun i => ?_⟩
  rw [et]
  unfold xorAll
  rw [foldl_getD _ _ hall (by simp [zeros])]
  have : (zeros K).getD i 0 = 0 := by unfold zeros; simp [List.getD_eq_getElem?_getD, List.getElem?_replicate]; split <;> rfl
  rw [this, UInt8.zero_xor, List.foldr_cons]
/-- Symbols of a plan. -/
def SmFit (K : Nat) (xs : List Sm) : Prop := ∀ x ∈ xs, x.data.length = K
theorem pOne_knLen {K : Nat} (hK : 1 ≤ K ∧ K ≤ 16) {kn : Kn} (hl : KnLen K kn) {x : Sm} (hx : x.data.length = K) : KnLen K (pOne kn x).1 := by
  rcases pOne_cases kn x with ⟨a, hm, ha, hha, _, e⟩ | ⟨_, e⟩ | ⟨_, e⟩
  · rw [e]
    intro k l hk
    replace hk : (kn.set a _)[k]? = some (some l) := hk
    rw [List.getElem?_set] at hk
    split at hk
    · simp [ha] at hk
      rw [← hk]; exact (told_facts hK hl _ hx).2.1
    · exact hl k l hk
  · rw [e]; exact hl
  · rw [e]; exact hl
theorem pOne_says {K : Nat} (hK : 1 ≤ K ∧ K ≤ 16) {G : Vc → Prop} (h0 : Span G Vc.zero) {kn : Kn} (hl : KnLen K kn) (h : Says G kn) {x : Sm} (hx : x.data.length = K) (hG : G (vc (symRow kn.length x))) : Says G (pOne kn x).1 := by
  rcases pOne_cases kn x with ⟨a, hm, ha, hha, hak, e⟩ | ⟨_, e⟩ | ⟨_, e⟩
  · rw [e]
    intro k l hk
    replace hk : (kn.set a _)[k]? = some (some l) := hk
    rw [List.getElem?_set] at hk
    split at hk
    · rename_i hka
      subst hka
      simp [ha] at hk
      obtain ⟨v, hv, v1, v2⟩ := got_span h0 h (pickHas x.id.toNat kn.length) kn.length
      have : uv a l = vc (symRow kn.length x) + v := by
        refine Vc.ext' (fun i => ?_) fun i => ?_
        · rw [Vc.add_h, v1]
          show decide (i = a) = ((pickHas x.id.toNat kn.length).getD i false ^^ _)
          have hmem : (i ∈ miss (pickHas x.id.toNat kn.length) kn kn.length) ↔ i = a := by rw [hm, List.mem_singleton]
          rw [mem_miss] at hmem
          by_cases hi : i = a
          · subst hi; rw [hha, hak]; simp
          · have hlt : (pickHas x.id.toNat kn.length).getD i false = true → i < kn.length := by
              intro hp
              rw [List.getD_eq_getElem?_getD] at hp
              rcases Nat.lt_or_ge i kn.length with h1 | h1
              · exact h1
              · rw [List.getElem?_eq_none (by rw [length_pickHas]; exact h1)] at hp; cases hp
            cases e1 : (pickHas x.id.toNat kn.length).getD i false with
            | false => simp [hi]
            | true =>
              have h1 := hlt e1
              cases e2 : kn.isK i with
              | true => simp [h1, hi]
              | false => exact absurd (hmem.1 ⟨h1, e1, e2⟩) hi
        · rw [Vc.add_d, v2]
          show l.getD i 0 = _
          rw [← hk]; exact (told_facts hK hl _ hx).2.2 i
      rw [this]
      exact (Span.of hG).plus hv
    · exact h k l hk
  · rw [e]; exact h
  · rw [e]; exact h
structure Good (b K : Nat) (G : Vc → Prop) (kn : Kn) : Prop where
  len : kn.length = b
  all : KnLen K kn
  says : Says G kn
theorem pRound_good {b K : Nat} (hK : 1 ≤ K ∧ K ≤ 16) {G : Vc → Prop} (h0 : Span G Vc.zero) : ∀ {xs : List Sm} {kn : Kn}, Good b K G kn → (∀ x ∈ xs, x.data.length = K ∧ G (vc (symRow b x))) → Good b K G (pRound kn xs).1
  | [], _, h, _ => h
  | x :: xs, kn, h, hx => by
    obtain ⟨h1, h2⟩ := hx x (by simp)
    refine pRound_good hK h0 (xs := xs) ⟨(pOne_len kn x).trans h.len, pOne_knLen hK h.all h1, pOne_says hK h0 h.all h.says h1 (by rw [h.len]; exact h2)⟩ fun y hy => hx y (List.mem_cons_of_mem _ hy)
theorem pRun_good {b K : Nat} (hK : 1 ≤ K ∧ K ≤ 16) {G : Vc → Prop} (h0 : Span G Vc.zero) : ∀ {f : Nat} {xs : List Sm} {kn : Kn}, Good b K G kn → (∀ x ∈ xs, x.data.length = K ∧ G (vc (symRow b x))) → Good b K G (pRun f kn xs)
  | 0, _, _, h, _ => h
  | f + 1, xs, kn, h, hx => by
    rw [pRun]; split
    · exact pRun_good hK h0 (pRound_good hK h0 h hx) fun y hy => hx y (pRound_left hy)
    · exact pRound_good hK h0 h hx
theorem good_none (b K : Nat) (G : Vc → Prop) : Good b K G (List.replicate b none) := by
  have : ∀ (k : Nat) (x : List UInt8), ¬ (List.replicate b (none : Option (List UInt8)))[k]? = some (some x) := fun k x h => by
    rw [List.getElem?_replicate] at h
    split at h <;> cases h
  exact ⟨by simp, fun k l h => absurd h (this k l), fun k x h => absurd h (this k x)⟩
theorem knLen_of {b K : Nat} (hK : 1 ≤ K ∧ K ≤ 16) {xs : List Sm} (hx : SmFit K xs) : KnLen K (peelF b xs) :=
  (pRun_good (G := fun _ => True) hK (.of trivial) (good_none b K _) fun x h => ⟨hx x h, trivial⟩).all
theorem peel_good {B K : Nat} {c : List UInt8} {xs : List Sm} (h : SymsOk B K c xs) (hne : xs ≠ []) : Good (cutF K B c).length K (GS (cutF K B c).length xs) (peelF (cutF K B c).length xs) := by
  obtain ⟨q1, q2, q3, hall, hK⟩ := cutF_facts h.cut h.len
  obtain ⟨x, hx⟩ := List.exists_mem_of_ne_nil _ hne
  have h1 : Span (GS (cutF K B c).length xs) (vc (symRow (cutF K B c).length x)) := .of ⟨x, hx, rfl⟩
  have h0 : Span (GS (cutF K B c).length xs) Vc.zero := by rw [← Vc.self (vc (symRow (cutF K B c).length x))]; exact h1.plus h1
  exact pRun_good hK h0 (good_none _ _ _) fun y hy => ⟨(h.hold y hy).1.2, y, hy, rfl⟩
theorem peel_empty (b : Nat) : peelF b [] = List.replicate b none := by
  unfold peelF pRun
  rw [pRound]; rfl
/-- What is known is true. -/
theorem peel_true {B K : Nat} {c : List UInt8} {xs : List Sm} (h : SymsOk B K c xs) {k : Nat} {x : List UInt8} (hk : (peelF (cutF K B c).length xs)[k]? = some (some x)) : (cutF K B c)[k]? = some x := by
  by_cases hne : xs = []
  · rw [hne, peel_empty, List.getElem?_replicate] at hk
    split at hk <;> cases hk
  · obtain ⟨q1, q2, q3, hall, hK⟩ := cutF_facts h.cut h.len
    have hg := peel_good h hne
    have hlt : k < (cutF K B c).length := by
      have := (List.getElem?_eq_some_iff.1 hk).1
      rw [hg.len] at this; exact this
    have hh : Hold (cutF K B c) (uv k x) := Hold.span (fun g ⟨y, hy, e⟩ => by rw [e]; exact (h.hold y hy).2.1) (hg.says k x hk)
    have hx : x = (cutF K B c)[k] := by
      refine list_ext_getD (d := 0) (by rw [hg.all k x hk, hall _ (List.getElem_mem hlt)]) fun i => ?_
      have := hh i
      rw [evf_unit i (cutF K B c) (uv k x).h k (by simp [uv]) (fun j hj => by simp [uv, hj]), show (cutF K B c).getD k [] = (cutF K B c)[k] from by rw [List.getD_eq_getElem?_getD, List.getElem?_eq_getElem hlt]; rfl] at this
      exact this
    rw [List.getElem?_eq_getElem hlt, hx]
/-- Where all is known so, the cargo is. -/
theorem peel_whole {B K : Nat} {c : List UInt8} {xs : List Sm} (h : SymsOk B K c xs) (hw : ∀ k, k < (cutF K B c).length → (peelF (cutF K B c).length xs).isK k = true) : decodeF B K xs = (c, 0) := by
  obtain ⟨q1, q2, q3, hall, hK⟩ := cutF_facts h.cut h.len
  have hne : xs ≠ [] := by
    rintro rfl
    have := hw 0 (by omega)
    rw [peel_empty] at this
    obtain ⟨l, this⟩ := isK_iff.1 this
    rw [List.getElem?_replicate] at this
    split at this <;> cases this
  have hg := peel_good h hne
  obtain ⟨rows, hm, e⟩ := h.rows
  have hlen : (cutF K B c).length ≤ rows.length := by
    have hn : (List.range (cutF K B c).length).Nodup := List.nodup_range
    have := nodup_le hn (m := (pl rows).map (·.1)) fun k hk => by
      have hk := List.mem_range.1 hk
      obtain ⟨x, hx⟩ := isK_iff.1 (hw k hk)
      have hs : Sp (pl rows) (uv k x) := (hm.span _).2 (hg.says k x hx)
      have hl : Lead (uv k x) k := ⟨by simp [uv], fun j hj => by simp [uv]; omega⟩
      obtain ⟨a, ha, ea⟩ := span_lead hm.sys.ech hs hl
      exact List.mem_map.2 ⟨a, ha, ea⟩
    simpa [pl] using this
  rw [e, if_neg (by omega)]
end Go.Proofs.Ytnfjghldcopaaaa
