/- Plain laws of the row of numbers by which blocks are picked. No condition; no program in sight. -/
import Derived.Below
set_option linter.unusedSimpArgs false
set_option linter.unusedVariables false
namespace Go.Proofs.YtbincgbgeccccaaGreatDoor

def nxt (x : Nat) : Nat := (x * 1109 + 12345) % 65536
def itr : Nat → Nat → Nat
  | 0, x => x
  | n + 1, x => itr n (nxt x)
theorem itr_add (a b x : Nat) : itr (a + b) x = itr b (itr a x) := by
  induction a generalizing x with
  | zero => simp [itr]
  | succ a ih => rw [Nat.succ_add]; exact ih (nxt x)

/-- 2^m steps in one: times A, and C. -/
def stA : Nat → Nat
  | 0 => 1109
  | m + 1 => stA m * stA m % 65536
def stC : Nat → Nat
  | 0 => 12345
  | m + 1 => (stA m * stC m + stC m) % 65536
theorem itr_pow (m : Nat) : ∀ x, itr (2 ^ m) x % 65536 = (stA m * x + stC m) % 65536 := by
  induction m with
  | zero => intro x; simp [itr, nxt, stA, stC, Nat.mul_comm]
  | succ m ih =>
    intro x
    have e1 : ∀ A C M y : Nat, (A * (y % M) + C) % M = (A * y + C) % M := fun A C M y => by rw [Nat.add_mod, Nat.mul_mod, Nat.mod_mod, ← Nat.mul_mod, ← Nat.add_mod]
    have e2 : ∀ A B C M y : Nat, ((A % M) * y + C % M) % M = (A * y + C) % M := fun A B C M y => by
      rw [Nat.add_mod, Nat.mul_mod, Nat.mod_mod, Nat.mod_mod, ← Nat.mul_mod, ← Nat.add_mod]
    rw [Nat.pow_succ, Nat.mul_two, itr_add, ih (itr (2 ^ m) x), ← e1, ih x, e1]
    simp only [stA, stC]
    rw [e2 _ 0]
    congr 1
    rw [Nat.mul_add, Nat.mul_assoc]
    omega

theorem st_facts : ∀ m, m < 16 → stA m % 2 ^ (m + 1) = 1 ∧ stC m % 2 ^ (m + 1) = 2 ^ m := by decide

theorem half_step (P z y : Nat) (hP : 0 < P) (h : z % P = y % P) (hne : z % (P * 2) ≠ y % (P * 2)) : (z + P) % (P * 2) = y % (P * 2) := by
  rw [Nat.mod_mul, Nat.mod_mul] at hne
  rw [Nat.mod_mul, Nat.mod_mul, Nat.add_mod_right, Nat.add_div_right z hP, h]
  rw [h] at hne
  have h1 : z / P % 2 ≠ y / P % 2 := fun e => hne (by rw [e])
  have h2 : (z / P + 1) % 2 = y / P % 2 := by omega
  rw [h2]

/-- Every number comes, from wherever. -/
theorem reach : ∀ m, m ≤ 16 → ∀ x y, ∃ j, j < 2 ^ m ∧ itr j x % 2 ^ m = y % 2 ^ m
  | 0, _, x, y => ⟨0, by simp, by simp [Nat.mod_one]⟩
  | m + 1, hm, x, y => by
    obtain ⟨j, hj, h⟩ := reach m (by omega) x y
    have hP : 0 < 2 ^ m := Nat.pow_pos (by omega)
    by_cases hc : itr j x % 2 ^ (m + 1) = y % 2 ^ (m + 1)
    · exact ⟨j, by rw [Nat.pow_succ]; omega, hc⟩
    · refine ⟨j + 2 ^ m, by rw [Nat.pow_succ]; omega, ?_⟩
      obtain ⟨hA, hC⟩ := st_facts m (by omega)
      have hd : 2 ^ (m + 1) ∣ 65536 := by
        rw [show 65536 = 2 ^ 16 from rfl]; exact Nat.pow_dvd_pow 2 (by omega)
      have h1 : itr (2 ^ m) (itr j x) % 2 ^ (m + 1) = (itr j x + 2 ^ m) % 2 ^ (m + 1) := by
        rw [← Nat.mod_mod_of_dvd _ hd, itr_pow, Nat.mod_mod_of_dvd _ hd, Nat.add_mod, Nat.mul_mod, hA, hC, Nat.one_mul, Nat.mod_mod, Nat.add_mod (itr j x), Nat.mod_eq_of_lt (show 2 ^ m < 2 ^ (m + 1) by rw [Nat.pow_succ]; omega)]
      rw [itr_add, h1, Nat.pow_succ]
      rw [Nat.pow_succ] at hc
      exact half_step _ _ _ hP h hc

theorem nxt_lt (x : Nat) : nxt x < 65536 := Nat.mod_lt _ (by omega)
theorem itr_lt : ∀ n x, x < 65536 → itr n x < 65536
  | 0, x, h => h
  | n + 1, x, _ => itr_lt n (nxt x) (nxt_lt x)
/-- From x on, y comes within 65536 steps. -/
theorem comes (x y : Nat) (hy : y < 65536) : ∃ j, j < 65536 ∧ itr (j + 1) x = y := by
  obtain ⟨j, hj, h⟩ := reach 16 (by omega) (nxt x) y
  refine ⟨j, hj, ?_⟩
  show itr j (nxt x) = y
  have := itr_lt j _ (nxt_lt x)
  rw [Nat.mod_eq_of_lt (by simpa using this), Nat.mod_eq_of_lt (by simpa using hy)] at h
  exact h

/-- How many blocks a symbol has. -/
def degree (x b : Nat) : Nat :=
  if x < 8192 then min 1 b else if x < 40960 then min 2 b else if x < 51882 then min 3 b else if x < 57344 then min 4 b else if x < 60621 then min 5 b else max 1 (b / 2)
theorem degree_bd (x b : Nat) (hb : 1 ≤ b) : 1 ≤ degree x b ∧ degree x b ≤ b := by
  unfold degree
  repeat' split
  all_goals omega

/-- The row gone on with until so many blocks are in. -/
def pickLoop (b : Nat) : Nat → Nat → Nat → List Bool → List Bool
  | 0, _, _, has => has
  | f + 1, x, many, has =>
    if many = 0 then has
    else if has.getD (nxt x / 7 % b) false then pickLoop b f (nxt x) many has
    else pickLoop b f (nxt x) (many - 1) (has.set (nxt x / 7 % b) true)

def noHas (b : Nat) : List Bool := List.replicate b false
def fuel : Nat := 1700000
/-- Which blocks are in the symbol of this number. -/
def pickHas (id b : Nat) : List Bool :=
  if id < b then (noHas b).set id true else pickLoop b fuel (nxt id) (degree (nxt id) b) (noHas b)

def cnt (l : List Bool) : Nat := l.countP (fun x => x)

theorem itr_one (x : Nat) : itr 1 x = nxt x := rfl
theorem itr_succ (n x : Nat) : itr (n + 1) x = itr n (nxt x) := rfl
attribute [irreducible] itr

theorem pay (g many j : Nat) (h0 : 0 < many) (hg : many * 65536 ≤ g) (hj : j < 65536) : (many - 1) * 65536 + j + 1 ≤ g := by
  obtain ⟨m, rfl⟩ : ∃ m, many = m + 1 := ⟨many - 1, by omega⟩
  rw [Nat.add_sub_cancel]
  rw [Nat.add_mul] at hg
  omega

/-- What is missing, and when it comes: enough rounds are left. -/
structure Enough (b g x many : Nat) (has : List Bool) : Prop where
  len : has.length = b
  le : many + cnt has ≤ b
  soon : 0 < many → ∃ k j, k < b ∧ has.getD k false = false ∧ j < 65536 ∧ itr (j + 1) x = 7 * k ∧ (many - 1) * 65536 + j + 1 ≤ g

theorem cnt_set {l : List Bool} {k : Nat} (hk : l[k]? = some false) : cnt (l.set k true) = cnt l + 1 := by
  obtain ⟨hlt, hv⟩ := List.getElem?_eq_some_iff.1 hk
  unfold cnt
  rw [List.countP_set hlt, hv]
  simp
theorem missing {l : List Bool} (h : cnt l < l.length) : ∃ k, k < l.length ∧ l.getD k false = false := by
  induction l with
  | nil => simp at h
  | cons a r ih =>
    cases a with
    | false => exact ⟨0, by simp, by simp⟩
    | true =>
      obtain ⟨k, hk, hv⟩ := ih (by simp [cnt] at h ⊢; omega)
      exact ⟨k + 1, by simp; omega, by simpa using hv⟩

theorem enough_new {b g x many : Nat} {has : List Bool} (hb : b ≤ 24) (hl : has.length = b) (hm : many + cnt has ≤ b) (hg : many * 65536 ≤ g) : Enough b g x many has := by
  refine ⟨hl, hm, fun h0 => ?_⟩
  obtain ⟨k, hk, hv⟩ := missing (l := has) (by omega)
  obtain ⟨j, hj, hi⟩ := comes x (7 * k) (by omega)
  refine ⟨k, j, by omega, hv, hj, hi, ?_⟩
  exact pay g many j h0 hg hj

/-- One round. -/
theorem enough_step {b g x many : Nat} {has : List Bool} (hb : b ≤ 24) (h0 : 0 < many) (h : Enough b g x many has) :
    1 ≤ g ∧ (has.getD (nxt x / 7 % b) false = true → Enough b (g - 1) (nxt x) many has) ∧ (has.getD (nxt x / 7 % b) false = false → Enough b (g - 1) (nxt x) (many - 1) (has.set (nxt x / 7 % b) true)) := by
  obtain ⟨hl, hm, hc⟩ := h
  obtain ⟨k, j, hk, hv, hj, hi, hg⟩ := hc h0
  refine ⟨by omega, fun hs => ⟨hl, hm, fun _ => ?_⟩, fun hs => ?_⟩
  · have hj0 : j ≠ 0 := by
      rintro rfl
      have e : nxt x = 7 * k := by rw [← itr_one]; exact hi
      rw [e, Nat.mul_div_cancel_left _ (by omega), Nat.mod_eq_of_lt hk] at hs
      rw [hs] at hv
      cases hv
    refine ⟨k, j - 1, hk, hv, by omega, ?_, by omega⟩
    have e := itr_succ j x
    rw [hi] at e
    rw [show j - 1 + 1 = j from by omega]
    exact e.symm
  · have hkb : nxt x / 7 % b < b := Nat.mod_lt _ (by omega)
    have hs' : has[nxt x / 7 % b]? = some false := by
      rw [List.getD_eq_getElem?_getD, List.getElem?_eq_getElem (by omega)] at hs
      rw [List.getElem?_eq_getElem (by omega)]
      simpa using hs
    refine enough_new hb (by simpa using hl) (by rw [cnt_set hs']; omega) ?_
    exact Nat.le_trans (Nat.le_add_right _ j) (Nat.le_sub_of_add_le hg)

theorem length_pickLoop (b : Nat) : ∀ f x many has, (pickLoop b f x many has).length = has.length
  | 0, _, _, _ => rfl
  | f + 1, x, many, has => by
    rw [pickLoop]
    repeat' split
    · rfl
    · exact length_pickLoop b f _ _ _
    · rw [length_pickLoop b f]; simp
theorem length_pickHas (id b : Nat) : (pickHas id b).length = b := by
  unfold pickHas
  split
  · simp [noHas]
  · rw [length_pickLoop]; simp [noHas]
theorem cnt_pickLoop (b : Nat) (hb : b ≤ 24) : ∀ f x many has, Enough b f x many has → cnt (pickLoop b f x many has) = many + cnt has
  | 0, x, many, has, h => by
    rcases Nat.eq_zero_or_pos many with h0 | h0
    · simp [pickLoop, h0]
    · have := (enough_step hb h0 h).1; omega
  | f + 1, x, many, has, h => by
    rw [pickLoop]
    split
    · omega
    · rename_i h0
      obtain ⟨_, h1, h2⟩ := enough_step hb (by omega) h
      split
      · rename_i hs
        rw [cnt_pickLoop b hb f _ _ _ (h1 hs)]
      · rename_i hs
        have hs' : has.getD (nxt x / 7 % b) false = false := by simpa using hs
        rw [cnt_pickLoop b hb f _ _ _ (h2 hs')]
        have hkb : nxt x / 7 % b < has.length := by rw [h.len]; exact Nat.mod_lt _ (by have := h.le; omega)
        rw [cnt_set (by rw [List.getD_eq_getElem?_getD, List.getElem?_eq_getElem hkb] at hs'; rw [List.getElem?_eq_getElem hkb]; simpa using hs')]
        omega
theorem cnt_noHas (b : Nat) : cnt (noHas b) = 0 := by simp [cnt, noHas, List.countP_replicate]
theorem cnt_pickHas (id b : Nat) (h1 : 1 ≤ b) (hb : b ≤ 24) : 1 ≤ cnt (pickHas id b) ∧ (id < b → cnt (pickHas id b) = 1 ∧ (pickHas id b)[id]? = some true) := by
  unfold pickHas
  split
  · rename_i h
    have : (noHas b)[id]? = some false := by simp [noHas, List.getElem?_replicate, h]
    rw [cnt_set this, cnt_noHas]
    refine ⟨by omega, fun _ => ⟨rfl, ?_⟩⟩
    rw [List.getElem?_set_self (by simpa [noHas] using h)]
  · rename_i h
    obtain ⟨d1, d2⟩ := degree_bd (nxt id) b h1
    rw [cnt_pickLoop b hb _ _ _ _ (enough_new hb (by simp [noHas]) (by rw [cnt_noHas]; omega) (by unfold fuel; omega)), cnt_noHas]
    exact ⟨by omega, fun h' => absurd h' h⟩
end Go.Proofs.YtbincgbgeccccaaGreatDoor
