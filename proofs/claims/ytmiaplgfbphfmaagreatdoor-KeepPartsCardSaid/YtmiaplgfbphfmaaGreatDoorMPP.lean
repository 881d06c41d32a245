/- Plain laws: a symbol of two cargos, added. No condition; no program in sight. -/
import Derived.Below
import Derived.Test.YtmiaplgfbphfmaaGreatDoorMPB
import Derived.Deep.LoopGhost
import Derived.Deep.RegionLaw
set_option linter.unusedSimpArgs false
set_option linter.unusedVariables false
namespace Go.Proofs.YtmiaplgfbphfmaaGreatDoor

def nxt (x : Nat) : Nat := (x * 1109 + 12345) % 65536
def itr : Nat → Nat → Nat
  | 0, x => x
  | n + 1, x => itr n (nxt x)
theorem itr_add (a b x : Nat) : itr (a + b) x = itr b (itr a x) := by
  induction a generalizing x with
  | zero => simp [itr]
  | succ a ih => rw [Nat.succ_add]; exact ih (nxt x)

/-- 2^m steps in one: times A, and C. -/
def stA : Nat → Nat
  | 0 => 1109
  | m + 1 => stA m * stA m % 65536
def stC : Nat → Nat
  | 0 => 12345
  | m + 1 => (stA m * stC m + stC m) % 65536
theorem itr_pow (m : Nat) : ∀ x, itr (2 ^ m) x % 65536 = (stA m * x + stC m) % 65536 := by
  induction m with
  | zero => intro x; simp [itr, nxt, stA, stC, Nat.mul_comm]
  | succ m ih =>
    intro x
    have e1 : ∀ A C M y : Nat, (A * (y % M) + C) % M = (A * y + C) % M := fun A C M y => by rw [Nat.add_mod, Nat.mul_mod, Nat.mod_mod, ← Nat.mul_mod, ← Nat.add_mod]
    have e2 : ∀ A B C M y : Nat, ((A % M) * y + C % M) % M = (A * y + C) % M := fun A B C M y => by
      rw [Nat.add_mod, Nat.mul_mod, Nat.mod_mod, Nat.mod_mod, ← Nat.mul_mod, ← Nat.add_mod]
    rw [Nat.pow_succ, Nat.mul_two, itr_add, ih (itr (2 ^ m) x), ← e1, ih x, e1]
    simp only [stA, stC]
    rw [e2 _ 0]
    congr 1
    rw [Nat.mul_add, Nat.mul_assoc]
    omega

theorem st_facts : ∀ m, m < 16 → stA m % 2 ^ (m + 1) = 1 ∧ stC m % 2 ^ (m + 1) = 2 ^ m := by decide

theorem half_step (P z y : Nat) (hP : 0 < P) (h : z % P = y % P) (hne : z % (P * 2) ≠ y % (P * 2)) : (z + P) % (P * 2) = y % (P * 2) := by
  rw [Nat.mod_mul, Nat.mod_mul] at hne
  rw [Nat.mod_mul, Nat.mod_mul, Nat.add_mod_right, Nat.add_div_right z hP, h]
  rw [h] at hne
  have h1 : z / P % 2 ≠ y / P % 2 := fun e => hne (by rw [e])
  have h2 : (z / P + 1) % 2 = y / P % 2 := by omega
  rw [h2]

/-- Every number comes, from wherever. -/
theorem reach : ∀ m, m ≤ 16 → ∀ x y, ∃ j, j < 2 ^ m ∧ itr j x % 2 ^ m = y % 2 ^ m
  | 0, _, x, y => ⟨0, by simp, by simp [Nat.mod_one]⟩
  | m + 1, hm, x, y => by
    obtain ⟨j, hj, h⟩ := reach m (by omega) x y
    have hP : 0 < 2 ^ m := Nat.pow_pos (by omega)
    by_cases hc : itr j x % 2 ^ (m + 1) = y % 2 ^ (m + 1)
    · exact ⟨j, by rw [Nat.pow_succ]; omega, hc⟩
    · refine ⟨j + 2 ^ m, by rw [Nat.pow_succ]; omega, ?_⟩
      obtain ⟨hA, hC⟩ := st_facts m (by omega)
      have hd : 2 ^ (m + 1) ∣ 65536 := by
        rw [show 65536 = 2 ^ 16 from rfl]; exact Nat.pow_dvd_pow 2 (by omega)
      have h1 : itr (2 ^ m) (itr j x) % 2 ^ (m + 1) = (itr j x + 2 ^ m) % 2 ^ (m + 1) := by
        rw [← Nat.mod_mod_of_dvd _ hd, itr_pow, Nat.mod_mod_of_dvd _ hd, Nat.add_mod, Nat.mul_mod, hA, hC, Nat.one_mul, Nat.mod_mod, Nat.add_mod (itr j x), Nat.mod_eq_of_lt (show 2 ^ m < 2 ^ (m + 1) by rw [Nat.pow_succ]; omega)]
      rw [itr_add, h1, Nat.pow_succ]
      rw [Nat.pow_succ] at hc
      exact half_step _ _ _ hP h hc

theorem nxt_lt (x : Nat) : nxt x < 65536 := Nat.mod_lt _ (by omega)
theorem itr_lt : ∀ n x, x < 65536 → itr n x < 65536
  | 0, x, h => h
  | n + 1, x, _ => itr_lt n (nxt x) (nxt_lt x)
/-- From x on, y comes within 65536 steps. -/
theorem comes (x y : Nat) (hy : y < 65536) : ∃ j, j < 65536 ∧ itr (j + 1) x = y := by
  obtain ⟨j, hj, h⟩ := reach 16 (by omega) (nxt x) y
  refine ⟨j, hj, ?_⟩
  show itr j (nxt x) = y
  have := itr_lt j _ (nxt_lt x)
  rw [Nat.mod_eq_of_lt (by simpa using this), Nat.mod_eq_of_lt (by simpa using hy)] at h
  exact h

/-- How many blocks a symbol has. -/
def degree (x b : Nat) : Nat :=
  if x < 8192 then min 1 b else if x < 40960 then min 2 b else if x < 51882 then min 3 b else if x < 57344 then min 4 b else if x < 60621 then min 5 b else max 1 (b / 2)
theorem degree_bd (x b : Nat) (hb : 1 ≤ b) : 1 ≤ degree x b ∧ degree x b ≤ b := by
  unfold degree
  repeat' split
  all_goals omega

/-- The row gone on with until so many blocks are in. -/
def pickLoop (b : Nat) : Nat → Nat → Nat → List Bool → List Bool
  | 0, _, _, has => has
  | f + 1, x, many, has =>
    if many = 0 then has
    else if has.getD (nxt x / 7 % b) false then pickLoop b f (nxt x) many has
    else pickLoop b f (nxt x) (many - 1) (has.set (nxt x / 7 % b) true)

def noHas (b : Nat) : List Bool := List.replicate b false
def fuel : Nat := 1700000
/-- Which blocks are in the symbol of this number. -/
def pickHas (id b : Nat) : List Bool :=
  if id < b then (noHas b).set id true else pickLoop b fuel (nxt id) (degree (nxt id) b) (noHas b)

def cnt (l : List Bool) : Nat := l.countP (fun x => x)

theorem itr_one (x : Nat) : itr 1 x = nxt x := rfl
theorem itr_succ (n x : Nat) : itr (n + 1) x = itr n (nxt x) := rfl
attribute [irreducible] itr

theorem pay (g many j : Nat) (h0 : 0 < many) (hg : many * 65536 ≤ g) (hj : j < 65536) : (many - 1) * 65536 + j + 1 ≤ g := by
  obtain ⟨m, rfl⟩ : ∃ m, many = m + 1 := ⟨many - 1, by omega⟩
  rw [Nat.add_sub_cancel]
  rw [Nat.add_mul] at hg
  omega

/-- What is missing, and when it comes: enough rounds are left. -/
structure Enough (b g x many : Nat) (has : List Bool) : Prop where
  len : has.length = b
  le : many + cnt has ≤ b
  soon : 0 < many → ∃ k j, k < b ∧ has.getD k false = false ∧ j < 65536 ∧ itr (j + 1) x = 7 * k ∧ (many - 1) * 65536 + j + 1 ≤ g

theorem cnt_set {l : List Bool} {k : Nat} (hk : l[k]? = some false) : cnt (l.set k true) = cnt l + 1 := by
  obtain ⟨hlt, hv⟩ := List.getElem?_eq_some_iff.1 hk
  unfold cnt
  rw [List.countP_set hlt, hv]
  simp
theorem missing {l : List Bool} (h : cnt l < l.length) : ∃ k, k < l.length ∧ l.getD k false = false := by
  induction l with
  | nil => simp at h
  | cons a r ih =>
    cases a with
    | false => exact ⟨0, by simp, by simp⟩
    | true =>
      obtain ⟨k, hk, hv⟩ := ih (by simp [cnt] at h ⊢; omega)
      exact ⟨k + 1, by simp; omega, by simpa using hv⟩

theorem enough_new {b g x many : Nat} {has : List Bool} (hb : b ≤ 24) (hl : has.length = b) (hm : many + cnt has ≤ b) (hg : many * 65536 ≤ g) : Enough b g x many has := by
  refine ⟨hl, hm, fun h0 => ?_⟩
  obtain ⟨k, hk, hv⟩ := missing (l := has) (by omega)
  obtain ⟨j, hj, hi⟩ := comes x (7 * k) (by omega)
  refine ⟨k, j, by omega, hv, hj, hi, ?_⟩
  exact pay g many j h0 hg hj

/-- One round. -/
theorem enough_step {b g x many : Nat} {has : List Bool} (hb : b ≤ 24) (h0 : 0 < many) (h : Enough b g x many has) :
    1 ≤ g ∧ (has.getD (nxt x / 7 % b) false = true → Enough b (g - 1) (nxt x) many has) ∧ (has.getD (nxt x / 7 % b) false = false → Enough b (g - 1) (nxt x) (many - 1) (has.set (nxt x / 7 % b) true)) := by
  obtain ⟨hl, hm, hc⟩ := h
  obtain ⟨k, j, hk, hv, hj, hi, hg⟩ := hc h0
  refine ⟨by omega, fun hs => ⟨hl, hm, fun _ => ?_⟩, fun hs => ?_⟩
  · have hj0 : j ≠ 0 := by
      rintro rfl
      have e : nxt x = 7 * k := by rw [← itr_one]; exact hi
      rw [e, Nat.mul_div_cancel_left _ (by omega), Nat.mod_eq_of_lt hk] at hs
      rw [hs] at hv
      cases hv
    refine ⟨k, j - 1, hk, hv, by omega, ?_, by omega⟩
    have e := itr_succ j x
    rw [hi] at e
    rw [show j - 1 + 1 = j from by omega]
    exact e.symm
  · have hkb : nxt x / 7 % b < b := Nat.mod_lt _ (by omega)
    have hs' : has[nxt x / 7 % b]? = some false := by
      rw [List.getD_eq_getElem?_getD, List.getElem?_eq_getElem (by omega)] at hs
      rw [List.getElem?_eq_getElem (by omega)]
      simpa using hs
    refine enough_new hb (by simpa using hl) (by rw [cnt_set hs']; omega) ?_
    exact Nat.le_trans (Nat.le_add_right _ j) (Nat.le_sub_of_add_le hg)

theorem length_pickLoop (b : Nat) : ∀ f x many has, (pickLoop b f x many has).length = has.length
  | 0, _, _, _ => rfl
  | f + 1, x, many, has => by
    rw [pickLoop]
    repeat' split
    · rfl
    · exact length_pickLoop b f _ _ _
    · rw [length_pickLoop b f]; simp
theorem length_pickHas (id b : Nat) : (pickHas id b).length = b := by
  unfold pickHas
  split
  · simp [noHas]
  · rw [length_pickLoop]; simp [noHas]
theorem cnt_noHas (b : Nat) : cnt (noHas b) = 0 := by simp [cnt, noHas, List.countP_replicate]
end Go.Proofs.YtmiaplgfbphfmaaGreatDoor
namespace Go.Proofs.YtmiaplgfbphfmaaGreatDoor
open Go.RowKit

theorem drop_eq_cons {α : Type} [DecidableEq α] {xs ys : List α} {k : Nat} {a b : α} (ha : xs[k]? = some a) (hb : ys[k]? = some b) (h : decide (xs = ys) = decide (xs.drop k = ys.drop k)) :
    decide (xs = ys) = (decide (a = b) && decide (xs.drop (k + 1) = ys.drop (k + 1))) := by
  rw [h, drop_cons ha, drop_cons hb]
  by_cases hab : a = b <;> simp [hab]


set_option maxHeartbeats 400000 in
theorem equalBlock_any (w : World) (S T : Nat → Prop) (A A' : Option Addr) (n c n' c' : Nat) (xs ys : List UInt8) (h : Sl 1 eByte w S A n xs) (h' : Sl 1 eByte w T A' n' ys) (hm : n ≤ maxLen) :
    Calls Tryz.prog 77 #[.slice A n c, .slice A' n' c'] w fun e w' => e = .returned (.bool (decide (xs = ys))) ∧ ∃ m, w' = w.drewN m := by
  unfold maxLen at hm
  have H := Lib.hid h
  have H' := Lib.hid h'
  clear h h'
  by_cases hn : n = n'
  · have hne : ((n : Int) != (n' : Int)) = false := by simp [hn]
    have HN : Hid (n = n') := hn
    clear hn
    go_enter Tryz.func77, Tryz.ntmps77
    go_wp2
    go_loopw [13] (fun i wr => ∃ k m : Nat, k ≤ n ∧ i = .int .i64 k ∧ wr = w.drewN m ∧ Hid (decide (xs = ys) = decide (xs.drop k = ys.drop k))) (fun i _ => n - (intOf i).toNat)
    case atStart => exact ⟨0, 0, Nat.zero_le _, rfl, rfl, rfl⟩
    case round =>
      obtain ⟨k, m, hk, rfl, rfl, HS⟩ := hrel
      by_cases hlt : k < n
      · have hlt' : k < n' := HN.out ▸ hlt
        obtain ⟨ad, rfl, hE⟩ := H.out.els (by omega)
        obtain ⟨ad', rfl, hE'⟩ := H'.out.els (by omega)
        obtain ⟨a, ha, hca⟩ := hE.byte hlt
        obtain ⟨b, hb, hcb⟩ := hE'.byte hlt'
        have HS' : Hid (decide (xs = ys) = (decide (a = b) && decide (xs.drop (k + 1) = ys.drop (k + 1)))) := drop_eq_cons ha hb HS.out
        clear HS ha hb
        by_cases hab : a = b
        · subst hab
          go_wp2
          go_quiet (fail)
          go_wp2
          go_roundw
          case rel => exact ⟨k + 1, _, by omega, by go_num, rfl, by rw [Hid, HS'.out]; simp⟩
          case measure => simp [intOf]; omega
        · have hab' : ((a.toNat : Int) == (b.toNat : Int)) = false := by
            rw [beq_eq_false_iff_ne]; intro e; exact hab (UInt8.toNat_inj.1 (by omega))
          have hab2 : ((a.toNat : Int) != (b.toNat : Int)) = true := by
            rw [bne_iff_ne]; intro e; exact hab (UInt8.toNat_inj.1 (by omega))
          go_wp2
          go_quiet (fail)
          go_wp2
          go_ret
          exact ⟨retB (by rw [HS'.out]; simp [hab]), drew2 _ _ _⟩
      · have HF : Hid (decide (xs = ys) = true) := by
          have h1 := H.out.1
          have h2 := H'.out.1
          rw [Hid, HS.out, List.drop_eq_nil_of_le (by omega), List.drop_eq_nil_of_le (by have := HN.out; omega)]; rfl
        go_wp2
        go_ret
        exact ⟨retB HF.out.symm, _, rfl⟩
  · have hne : ((n : Int) != (n' : Int)) = true := by rw [bne_iff_ne]; omega
    have HF : Hid (decide (xs = ys) = false) := by
      rw [Hid, decide_eq_false_iff_not]; rintro rfl; exact hn (H.out.1.symm.trans H'.out.1)
    go_enter Tryz.func77, Tryz.ntmps77
    go_wp2
    go_ret
    exact ⟨retB HF.out.symm, 0, rfl⟩
set_option maxHeartbeats 400000 in
theorem equalBytes_any (w : World) (S T : Nat → Prop) (A A' : Option Addr) (n c n' c' : Nat) (xs ys : List UInt8) (h : Sl 1 eByte w S A n xs) (h' : Sl 1 eByte w T A' n' ys) (hm : n ≤ maxLen) :
    Calls Tryz.prog 46 #[.slice A n c, .slice A' n' c'] w fun e w' => e = .returned (.bool (decide (xs = ys))) ∧ ∃ m, w' = w.drewN m := by
  unfold maxLen at hm
  have H := Lib.hid h
  have H' := Lib.hid h'
  clear h h'
  by_cases hn : n = n'
  · have hne : ((n : Int) != (n' : Int)) = false := by simp [hn]
    have HN : Hid (n = n') := hn
    clear hn
    go_enter Tryz.func46, Tryz.ntmps46
    go_wp2
    go_loopw [13] (fun i wr => ∃ k m : Nat, k ≤ n ∧ i = .int .i64 k ∧ wr = w.drewN m ∧ Hid (decide (xs = ys) = decide (xs.drop k = ys.drop k))) (fun i _ => n - (intOf i).toNat)
    case atStart => exact ⟨0, 0, Nat.zero_le _, rfl, rfl, rfl⟩
    case round =>
      obtain ⟨k, m, hk, rfl, rfl, HS⟩ := hrel
      by_cases hlt : k < n
      · have hlt' : k < n' := HN.out ▸ hlt
        obtain ⟨ad, rfl, hE⟩ := H.out.els (by omega)
        obtain ⟨ad', rfl, hE'⟩ := H'.out.els (by omega)
        obtain ⟨a, ha, hca⟩ := hE.byte hlt
        obtain ⟨b, hb, hcb⟩ := hE'.byte hlt'
        have HS' : Hid (decide (xs = ys) = (decide (a = b) && decide (xs.drop (k + 1) = ys.drop (k + 1)))) := drop_eq_cons ha hb HS.out
        clear HS ha hb
        by_cases hab : a = b
        · subst hab
          go_wp2
          go_quiet (fail)
          go_wp2
          go_roundw
          case rel => exact ⟨k + 1, _, by omega, by go_num, rfl, by rw [Hid, HS'.out]; simp⟩
          case measure => simp [intOf]; omega
        · have hab' : ((a.toNat : Int) == (b.toNat : Int)) = false := by
            rw [beq_eq_false_iff_ne]; intro e; exact hab (UInt8.toNat_inj.1 (by omega))
          have hab2 : ((a.toNat : Int) != (b.toNat : Int)) = true := by
            rw [bne_iff_ne]; intro e; exact hab (UInt8.toNat_inj.1 (by omega))
          go_wp2
          go_quiet (fail)
          go_wp2
          go_ret
          exact ⟨retB (by rw [HS'.out]; simp [hab]), drew2 _ _ _⟩
      · have HF : Hid (decide (xs = ys) = true) := by
          have h1 := H.out.1
          have h2 := H'.out.1
          rw [Hid, HS.out, List.drop_eq_nil_of_le (by omega), List.drop_eq_nil_of_le (by have := HN.out; omega)]; rfl
        go_wp2
        go_ret
        exact ⟨retB HF.out.symm, _, rfl⟩
  · have hne : ((n : Int) != (n' : Int)) = true := by rw [bne_iff_ne]; omega
    have HF : Hid (decide (xs = ys) = false) := by
      rw [Hid, decide_eq_false_iff_not]; rintro rfl; exact hn (H.out.1.symm.trans H'.out.1)
    go_enter Tryz.func46, Tryz.ntmps46
    go_wp2
    go_ret
    exact ⟨retB HF.out.symm, 0, rfl⟩
end Go.Proofs.YtmiaplgfbphfmaaGreatDoor
namespace Go.Proofs.YtmiaplgfbphfmaaGreatDoor
open Go.RowKit

theorem next_any (w : World) (x : Nat) (hx : x < 65536) :
    Calls Tryz.prog 184 #[.int .i64 x] w fun e w' => e = .returned (.int .i64 (nxt x : Nat)) ∧ w = w' := by
  have E : Hid ((((x : Int) * 1109 + 12345) % 65536) = ((nxt x : Nat) : Int)) := by unfold nxt Hid; omega
  go_enter Tryz.func184, Tryz.ntmps184
  go_wp2
  go_ret
  exact ⟨retI (by rw [E.out]), rfl⟩

set_option maxRecDepth 100000 in
theorem degree_any (w : World) (x b : Nat) (hb : 1 ≤ b) (hb2 : b ≤ 24) :
    Calls Tryz.prog 185 #[.int .i64 x, .int .i64 b] w fun e w' => e = .returned (.int .i64 (degree x b : Nat)) ∧ w = w' := by
  have i0 : ∀ w, (Instr.index 292 (.agg #[.int .i64 8192, .int .i64 40960, .int .i64 51882, .int .i64 57344, .int .i64 60621]) (.int .i64 0)).run Tryz.prog w = .ok (.int .i64 8192) w := fun _ => by kernel_rfl
  have i1 : ∀ w, (Instr.index 292 (.agg #[.int .i64 8192, .int .i64 40960, .int .i64 51882, .int .i64 57344, .int .i64 60621]) (.int .i64 1)).run Tryz.prog w = .ok (.int .i64 40960) w := fun _ => by kernel_rfl
  have i2 : ∀ w, (Instr.index 292 (.agg #[.int .i64 8192, .int .i64 40960, .int .i64 51882, .int .i64 57344, .int .i64 60621]) (.int .i64 2)).run Tryz.prog w = .ok (.int .i64 51882) w := fun _ => by kernel_rfl
  have i3 : ∀ w, (Instr.index 292 (.agg #[.int .i64 8192, .int .i64 40960, .int .i64 51882, .int .i64 57344, .int .i64 60621]) (.int .i64 3)).run Tryz.prog w = .ok (.int .i64 57344) w := fun _ => by kernel_rfl
  have i4 : ∀ w, (Instr.index 292 (.agg #[.int .i64 8192, .int .i64 40960, .int .i64 51882, .int .i64 57344, .int .i64 60621]) (.int .i64 4)).run Tryz.prog w = .ok (.int .i64 60621) w := fun _ => by kernel_rfl
  go_enter Tryz.func185, Tryz.ntmps185
  go_wp2_with fail
  go_loop [8] (fun i => ∃ k : Nat, k ≤ 5 ∧ i = .int .i64 k ∧ (if k = 0 then 0 else if k = 1 then 8192 else if k = 2 then 40960 else if k = 3 then 51882 else if k = 4 then 57344 else 60621) ≤ (x : Int)) (fun i => 5 - (intOf i).toNat)
  case atStart => exact ⟨0, Nat.zero_le _, rfl, by simp⟩
  case round =>
    obtain ⟨k, hk, rfl, hx2⟩ := hrel
    rcases (show k = 0 ∨ k = 1 ∨ k = 2 ∨ k = 3 ∨ k = 4 ∨ k = 5 from by omega) with rfl | rfl | rfl | rfl | rfl | rfl
    · have hx3 : (0 : Int) ≤ x := by omega
      clear hx2
      by_cases hlt : (x : Int) < 8192
      · have E : Hid ((degree x b : Int) = min (1 : Int) b) := by
          unfold Hid degree
          repeat' (first | rw [if_pos (by omega)] | rw [if_neg (by omega)])
          omega
        clear hx3
        have hb1 : decide ((x : Int) < 8192) = true := decide_eq_true hlt
        clear hlt
        by_cases hbk : (1 : Int) ≤ b
        all_goals
          go_wp2
          go_ret
          exact ⟨retI (by rw [E.out]; omega), rfl⟩
      · clear hx3
        have hb1 : decide ((x : Int) < 8192) = false := decide_eq_false hlt
        have HLT := Lib.hid hlt
        clear hlt
        go_wp2
        go_round
        case rel => exact ⟨_, by decide, rfl, by have := HLT.out; simp; omega⟩
        case measure => simp [intOf]
    · have hx3 : (8192 : Int) ≤ x := by omega
      clear hx2
      by_cases hlt : (x : Int) < 40960
      · have E : Hid ((degree x b : Int) = min (2 : Int) b) := by
          unfold Hid degree
          repeat' (first | rw [if_pos (by omega)] | rw [if_neg (by omega)])
          omega
        clear hx3
        have hb1 : decide ((x : Int) < 40960) = true := decide_eq_true hlt
        clear hlt
        by_cases hbk : (2 : Int) ≤ b
        all_goals
          go_wp2
          go_ret
          exact ⟨retI (by rw [E.out]; omega), rfl⟩
      · clear hx3
        have hb1 : decide ((x : Int) < 40960) = false := decide_eq_false hlt
        have HLT := Lib.hid hlt
        clear hlt
        go_wp2
        go_round
        case rel => exact ⟨_, by decide, rfl, by have := HLT.out; simp; omega⟩
        case measure => simp [intOf]
    · have hx3 : (40960 : Int) ≤ x := by omega
      clear hx2
      by_cases hlt : (x : Int) < 51882
      · have E : Hid ((degree x b : Int) = min (3 : Int) b) := by
          unfold Hid degree
          repeat' (first | rw [if_pos (by omega)] | rw [if_neg (by omega)])
          omega
        clear hx3
        have hb1 : decide ((x : Int) < 51882) = true := decide_eq_true hlt
        clear hlt
        by_cases hbk : (3 : Int) ≤ b
        all_goals
          go_wp2
          go_ret
          exact ⟨retI (by rw [E.out]; omega), rfl⟩
      · clear hx3
        have hb1 : decide ((x : Int) < 51882) = false := decide_eq_false hlt
        have HLT := Lib.hid hlt
        clear hlt
        go_wp2
        go_round
        case rel => exact ⟨_, by decide, rfl, by have := HLT.out; simp; omega⟩
        case measure => simp [intOf]
    · have hx3 : (51882 : Int) ≤ x := by omega
      clear hx2
      by_cases hlt : (x : Int) < 57344
      · have E : Hid ((degree x b : Int) = min (4 : Int) b) := by
          unfold Hid degree
          repeat' (first | rw [if_pos (by omega)] | rw [if_neg (by omega)])
          omega
        clear hx3
        have hb1 : decide ((x : Int) < 57344) = true := decide_eq_true hlt
        clear hlt
        by_cases hbk : (4 : Int) ≤ b
        all_goals
          go_wp2
          go_ret
          exact ⟨retI (by rw [E.out]; omega), rfl⟩
      · clear hx3
        have hb1 : decide ((x : Int) < 57344) = false := decide_eq_false hlt
        have HLT := Lib.hid hlt
        clear hlt
        go_wp2
        go_round
        case rel => exact ⟨_, by decide, rfl, by have := HLT.out; simp; omega⟩
        case measure => simp [intOf]
    · have hx3 : (57344 : Int) ≤ x := by omega
      clear hx2
      by_cases hlt : (x : Int) < 60621
      · have E : Hid ((degree x b : Int) = min (5 : Int) b) := by
          unfold Hid degree
          repeat' (first | rw [if_pos (by omega)] | rw [if_neg (by omega)])
          omega
        clear hx3
        have hb1 : decide ((x : Int) < 60621) = true := decide_eq_true hlt
        clear hlt
        by_cases hbk : (5 : Int) ≤ b
        all_goals
          go_wp2
          go_ret
          exact ⟨retI (by rw [E.out]; omega), rfl⟩
      · clear hx3
        have hb1 : decide ((x : Int) < 60621) = false := decide_eq_false hlt
        have HLT := Lib.hid hlt
        clear hlt
        go_wp2
        go_round
        case rel => exact ⟨_, by decide, rfl, by have := HLT.out; simp; omega⟩
        case measure => simp [intOf]
    · have hx3 : (60621 : Int) ≤ x := by simp at hx2 ⊢; omega
      clear hx2
      have E : Hid ((degree x b : Int) = max 1 ((b : Int) / 2)) := by
        unfold Hid degree
        repeat' (rw [if_neg (by omega)])
        omega
      clear hx3
      go_wp2
      all_goals
        go_ret
        exact ⟨retI (by rw [E.out]; omega), rfl⟩

set_option maxHeartbeats 400000 in
theorem pickOf_err (w : World) (id b : Int) (h : ¬ (0 ≤ id ∧ id ≤ 9999 ∧ 1 ≤ b ∧ b ≤ 24)) :
    Calls Tryz.prog 163 #[.int .i64 id, .int .i64 b] w fun e w' => e = .returned (.tuple #[.slice none 0 0, .int .i64 3]) ∧ w = w' := by
  by_cases h1 : id < 0
  · go_enter Tryz.func163, Tryz.ntmps163
    go_wp2
    go_ret2
    exact ⟨rfl, rfl⟩
  · by_cases h2 : 9999 < id
    · go_enter Tryz.func163, Tryz.ntmps163
      go_wp2
      go_ret2
      exact ⟨rfl, rfl⟩
    · by_cases h3 : b < 1
      · go_enter Tryz.func163, Tryz.ntmps163
        go_wp2
        go_ret2
        exact ⟨rfl, rfl⟩
      · have h4 : 24 < b := by omega
        go_enter Tryz.func163, Tryz.ntmps163
        go_wp2
        go_ret2
        exact ⟨rfl, rfl⟩

set_option maxHeartbeats 400000 in
theorem pickOf_first (w : World) (id b : Nat) (h1 : id < b) (h2 : b ≤ 24) :
    Calls Tryz.prog 163 #[.int .i64 id, .int .i64 b] w fun e w' => e = .returned (.tuple #[.slice (some ⟨w.heap.size, 0, none⟩) b b, .int .i64 0]) ∧ Sl 1 eBool w' (LT w'.heap.size) (some ⟨w.heap.size, 0, none⟩) b (pickHas id b) ∧ Fr w w' := by
  have hmk := run_make_ca (P := Tryz.prog) Value.bool false 236 4 1 Tryz.underlying236 infoBool rfl .i64 .i64 b (by omega) (by omega)
  have E : Hid (pickHas id b = (List.replicate b false).set id true) := by unfold Hid pickHas; rw [if_pos h1]; rfl
  have HA : Hid ((w.alloc (.cells (ca Value.bool (List.replicate b false)) 4)).heap[w.heap.size]? = some (.cells (ca Value.bool (List.replicate b false)) 4 (0, 0))) := heap_new rfl
  have hc : (w.alloc (.cells (ca Value.bool (List.replicate b false)) 4)).cell? ⟨w.heap.size, id, none⟩ = some (.bool false) := ca_cell HA.out (by simp [List.getElem?_replicate, h1])
  have hf : (w.alloc (.cells (ca Value.bool (List.replicate b false)) 4)).frozen? ⟨w.heap.size, id, none⟩ = false := ca_free HA.out
  go_enter Tryz.func163, Tryz.ntmps163
  go_wp2
  go_ret2
  refine ⟨rfl, ?_, ?_⟩
  · rw [E.out]
    have e : (ca Value.bool (List.replicate b false)).setIfInBounds id (.bool true) = ca Value.bool ((List.replicate b false).set id true) := by simp only [ca, List.map_set, List.setIfInBounds_toArray]
    rw [e]
    exact ca_bools (heap_new rfl) (ca_lt (heap_new (w := w) rfl)) (by simp)
  · exact frA (Below.refl _ _) _

set_option maxHeartbeats 1000000 in
theorem pickOf_more (w : World) (id b : Nat) (h1 : b ≤ id) (h2 : b ≤ 24) (h3 : 1 ≤ b) (h4 : id ≤ 9999) :
    Calls Tryz.prog 163 #[.int .i64 id, .int .i64 b] w fun e w' => e = .returned (.tuple #[.slice (some ⟨w.heap.size, 0, none⟩) b b, .int .i64 0]) ∧ Sl 1 eBool w' (LT w'.heap.size) (some ⟨w.heap.size, 0, none⟩) b (pickHas id b) ∧ Fr w w' := by
  have hmk := run_make_ca (P := Tryz.prog) Value.bool false 236 4 1 Tryz.underlying236 infoBool rfl .i64 .i64 b (by omega) (by omega)
  have E : Hid (pickHas id b = pickLoop b fuel (nxt id) (degree (nxt id) b) (List.replicate b false)) := by unfold Hid pickHas; rw [if_neg (by omega)]; rfl
  have hd := degree_bd (nxt id) b h3
  have hlt0 : decide ((id : Int) < (b : Int)) = false := by simp; omega
  have hx0 : nxt id < 65536 := nxt_lt id
  have hen : Hid (Enough b fuel (nxt id) (degree (nxt id) b) (List.replicate b false)) := enough_new h2 (by simp) (by have := cnt_noHas b; unfold noHas at this; omega) (by unfold fuel; omega)
  obtain ⟨x0, hx⟩ : ∃ x0, x0 = nxt id := ⟨_, rfl⟩
  obtain ⟨d0, hdd⟩ : ∃ d0, d0 = degree (nxt id) b := ⟨_, rfl⟩
  obtain ⟨hd1, hd2⟩ := hd
  rw [← hdd] at hd1 hd2 hen E
  rw [← hx] at hx0 hen E
  rw [← hx] at hdd
  have NX : ∀ W : World, _ := fun W => next_any W id (by omega)
  have DG : ∀ W : World, _ := fun W => degree_any W x0 b h3 h2
  rw [← hx] at NX
  rw [← hdd] at DG
  have HNX := Lib.hid NX
  have HDG := Lib.hid DG
  clear NX DG hx hdd
  go_enter Tryz.func163, Tryz.ntmps163
  go_wp2_with fail
  refine (HNX.out _).mono ?_
  rintro e w' ⟨rfl, rfl⟩
  go_wp2_with fail
  refine (HDG.out _).mono ?_
  rintro e w' ⟨rfl, rfl⟩
  go_wp2_with fail
  go_loopg [7, 8] fuel (fun g x m wr => ∃ (xx mm : Nat) (has : List Bool), x = .int .i64 xx ∧ m = .int .i64 mm ∧ mm ≤ 24 ∧ Hid (xx < 65536) ∧ Hid (Enough b g xx mm has) ∧ wr.heap[w.heap.size]? = some (.cells (ca Value.bool has) 4 (0, 0)) ∧ Hid (pickHas id b = pickLoop b g xx mm has) ∧ Below w.heap.size w wr)
  case atStart => exact ⟨x0, d0, _, rfl, rfl, by omega, hx0, hen, heap_new rfl, E, (Below.refl _ _).alloc (Nat.le_refl _) _⟩
  case round =>
    obtain ⟨xx, mm, has, rfl, rfl, hmm, HX, HE, HA, HP, HB⟩ := hrel
    by_cases h0 : mm = 0
    · have HR : Hid (has = pickHas id b) := by
        rw [Hid, HP.out, h0]
        cases gk with
        | zero => rfl
        | succ n => rw [pickLoop, if_pos rfl]
      have HL : Hid (has.length = b) := HE.out.len
      subst h0
      clear HP HE
      go_wp2_with fail
      go_ret2
      rw [← HR.out]
      exact ⟨rfl, ca_bools HA (ca_lt HA) HL.out, HB⟩
    · obtain ⟨hg, hs1, hs2⟩ := enough_step h2 (by omega) HE.out
      have hm0 : (0 : Int) < mm := by omega
      obtain ⟨x', hx'⟩ : ∃ x', x' = nxt xx := ⟨_, rfl⟩
      obtain ⟨k, hk⟩ : ∃ k, k = x' / 7 % b := ⟨_, rfl⟩
      have hkb : k < b := by rw [hk]; exact Nat.mod_lt _ (by omega)
      have NX : ∀ W : World, _ := fun W => next_any W xx HX.out
      have hx1 : Hid (x' < 65536) := by rw [hx']; exact nxt_lt xx
      rw [← hx', ← hk] at hs1 hs2
      rw [← hx'] at NX
      have HP' : Hid (pickHas id b = if has.getD k false then pickLoop b (gk - 1) x' mm has else pickLoop b (gk - 1) x' (mm - 1) (has.set k true)) := by
        rw [Hid, HP.out]
        conv => lhs; rw [show gk = (gk - 1) + 1 from by omega, pickLoop, if_neg h0, ← hx', ← hk]
      have hlen := HE.out.len
      have hw7 : wrap64 ((x' : Int) / 7) = (x' : Int) / 7 := IntWalk.wrap64_in _ (by have := hx1.out; omega)
      have hke : ((x' : Int) / 7).tmod (b : Int) = (k : Int) := by rw [Int.tmod_eq_emod_of_nonneg (by omega), hk]; simp
      have HNX := Lib.hid NX
      have hks : has[k]? = some (has.getD k false) := by rw [List.getD_eq_getElem?_getD, List.getElem?_eq_getElem (by omega)]; rfl
      have hc : wr.cell? ⟨w.heap.size, k, none⟩ = some (.bool (has.getD k false)) := ca_cell HA hks
      have hf : wr.frozen? ⟨w.heap.size, k, none⟩ = false := ca_free HA
      have hb0 : ((b : Int) == 0) = false := by rw [beq_eq_false_iff_ne]; omega
      have hx7 : 0 ≤ (x' : Int) / 7 := by omega
      clear HP HE NX hx' hk hlen hks
      by_cases hh : has.getD k false = true
      · have HE' := Lib.hid (hs1 hh)
        rw [hh] at hc
        have HR : Hid (pickHas id b = pickLoop b (gk - 1) x' mm has) := by rw [Hid, HP'.out, if_pos hh]
        clear hs1 hs2 hh HP'
        go_wp2_with fail
        refine (HNX.out _).mono ?_
        rintro e w' ⟨rfl, rfl⟩
        go_wp2_with fail
        go_roundg (gk - 1)
        case measure => omega
        case rel => exact ⟨x', mm, has, rfl, rfl, by omega, hx1, HE', HA, HR, HB⟩
      · have hh' : has.getD k false = false := by simpa using hh
        have HE' := Lib.hid (hs2 hh')
        rw [hh'] at hc
        have HR : Hid (pickHas id b = pickLoop b (gk - 1) x' (mm - 1) (has.set k true)) := by rw [Hid, HP'.out, if_neg hh]
        have HA' : Hid ((wr.setCell ⟨w.heap.size, k, none⟩ (.bool true)).heap[w.heap.size]? = some (.cells (ca Value.bool (has.set k true)) 4 (0, 0))) := ca_set HA
        clear hs1 hs2 hh HP' hh'
        go_wp2_with fail
        refine (HNX.out _).mono ?_
        rintro e w' ⟨rfl, rfl⟩
        go_wp2_with fail
        go_roundg (gk - 1)
        case measure => omega
        case rel => exact ⟨x', mm - 1, has.set k true, rfl, by go_num, by omega, hx1, HE', HA'.out, HR, HB.setCell (Nat.le_refl _) _⟩

/-- What pick.Of answers. -/
def pickOf (id b : Int) : List Bool × Int := if 0 ≤ id ∧ id ≤ 9999 ∧ 1 ≤ b ∧ b ≤ 24 then (pickHas id.toNat b.toNat, 0) else ([], 3)
theorem pickOf_any (w : World) (id b : Int) :
    Calls Tryz.prog 163 #[.int .i64 id, .int .i64 b] w fun e w' => ∃ A n c, e = .returned (.tuple #[.slice A n c, .int .i64 (pickOf id b).2]) ∧ n ≤ 24 ∧ ((pickOf id b).2 = 0 → (n : Int) = b) ∧ Sl 1 eBool w' (LT w'.heap.size) A n (pickOf id b).1 ∧ Fr w w' := by
  by_cases h : 0 ≤ id ∧ id ≤ 9999 ∧ 1 ≤ b ∧ b ≤ 24
  · have E : pickOf id b = (pickHas id.toNat b.toNat, 0) := if_pos h
    rw [E]
    obtain ⟨i, rfl⟩ := Int.eq_ofNat_of_zero_le h.1
    obtain ⟨m, rfl⟩ := Int.eq_ofNat_of_zero_le (show 0 ≤ b by omega)
    by_cases hlt : i < m
    · refine (pickOf_first w i m hlt (by omega)).mono ?_
      rintro e w' ⟨rfl, hs, hf⟩
      exact ⟨_, _, _, rfl, by omega, fun _ => rfl, hs, hf⟩
    · refine (pickOf_more w i m (by omega) (by omega) (by omega) (by omega)).mono ?_
      rintro e w' ⟨rfl, hs, hf⟩
      exact ⟨_, _, _, rfl, by omega, fun _ => rfl, hs, hf⟩
  · have E : pickOf id b = ([], 3) := if_neg h
    rw [E]
    refine (pickOf_err w id b h).mono ?_
    rintro e w' ⟨rfl, rfl⟩
    exact ⟨none, 0, 0, rfl, by omega, fun h => absurd h (by decide), Sl.nil, Below.refl _ _⟩

end Go.Proofs.YtmiaplgfbphfmaaGreatDoor
namespace Go.Proofs.YtmiaplgfbphfmaaGreatDoor

def blocksOf (B K : Int) : Int := if K < 1 ∨ B < 1 then 0 else (B - 1) / K + 1
def cutCheck (B K : Int) : Int := if B < 1 ∨ 360 < B ∨ K < 1 ∨ 16 < K then 3 else if 24 < blocksOf B K then 2 else 0
def padTo (K : Nat) (l : List UInt8) : List UInt8 := l ++ List.replicate (K - l.length) 0
def cutF (K : Nat) : Nat → List UInt8 → List (List UInt8)
  | 0, _ => []
  | f + 1, c => if c.length = 0 then [] else padTo K (c.take K) :: cutF K f (c.drop K)
def joinUp (B K : Int) (ls : List (List UInt8)) : List UInt8 × Int :=
  if cutCheck B K ≠ 0 then ([], cutCheck B K) else if (ls.length : Int) ≠ blocksOf B K then ([], 8)
  else if ls.all (fun b => decide ((b.length : Int) = K)) = false then ([], 4)
  else if (ls.flatten.drop B.toNat).all (fun c => decide (c = 0)) = false then ([], 4)
  else (ls.flatten.take B.toNat, 0)

theorem cutCheck_ok {B K : Int} (h : cutCheck B K = 0) : (1 ≤ B ∧ B ≤ 360) ∧ (1 ≤ K ∧ K ≤ 16) ∧ blocksOf B K ≤ 24 ∧ 1 ≤ blocksOf B K ∧ blocksOf B K = (B - 1) / K + 1 := by
  unfold cutCheck at h
  split at h
  · cases h
  · split at h
    · cases h
    · rename_i h1 h2
      have e : blocksOf B K = (B - 1) / K + 1 := by unfold blocksOf; rw [if_neg (by omega)]
      have h3 : 0 ≤ (B - 1) / K := Int.ediv_nonneg (by omega) (by omega)
      omega
theorem length_padTo {K : Nat} {l : List UInt8} (h : l.length ≤ K) : (padTo K l).length = K := by simp [padTo]; omega

theorem cutF_length {K : Nat} (hK : 1 ≤ K) : ∀ f c, c.length ≤ f → (cutF K f c).length = (c.length + K - 1) / K
  | 0, c, h => by
    have : c.length = 0 := by omega
    rw [cutF, this, Nat.zero_add, Nat.div_eq_of_lt (by omega)]; rfl
  | f + 1, c, h => by
    rw [cutF]
    split
    · rename_i h0
      rw [h0, Nat.zero_add, Nat.div_eq_of_lt (by omega)]; rfl
    · rename_i h0
      rw [List.length_cons, cutF_length hK f _ (by rw [List.length_drop]; omega), List.length_drop]
      by_cases hlt : c.length ≤ K
      · rw [show c.length - K = 0 from by omega, Nat.zero_add, Nat.div_eq_of_lt (by omega)]
        symm
        rw [Nat.div_eq_iff (by omega)]; omega
      · rw [show c.length + K - 1 = (c.length - K + K - 1) + K from by omega, Nat.add_div_right _ (by omega)]
theorem cutF_all {K : Nat} (hK : 1 ≤ K) : ∀ f c, ∀ b ∈ cutF K f c, b.length = K
  | 0, c, b, h => by simp [cutF] at h
  | f + 1, c, b, h => by
    rw [cutF] at h
    split at h
    · simp at h
    · rcases List.mem_cons.1 h with rfl | h
      · exact length_padTo (by rw [List.length_take]; omega)
      · exact cutF_all hK f _ b h
theorem cutF_flatten {K : Nat} (hK : 1 ≤ K) : ∀ f c, c.length ≤ f → ∃ z, (cutF K f c).flatten = c ++ List.replicate z 0
  | 0, c, h => ⟨0, by have : c = [] := List.eq_nil_of_length_eq_zero (by omega); simp [cutF, this]⟩
  | f + 1, c, h => by
    rw [cutF]
    split
    · rename_i h0
      exact ⟨0, by simp [List.eq_nil_of_length_eq_zero h0]⟩
    · rename_i h0
      by_cases hlt : c.length ≤ K
      · refine ⟨K - c.length, ?_⟩
        rw [List.flatten_cons, List.take_of_length_le hlt, List.drop_eq_nil_of_le hlt]
        have : (cutF K f []).flatten = [] := by
          cases f <;> simp [cutF]
        rw [this, padTo, List.append_nil]
      · obtain ⟨z, hz⟩ := cutF_flatten hK f (c.drop K) (by rw [List.length_drop]; omega)
        refine ⟨z, ?_⟩
        rw [List.flatten_cons, hz, padTo, List.length_take, Nat.min_eq_left (by omega), Nat.sub_self, List.replicate_zero, List.append_nil, ← List.append_assoc, List.take_append_drop]

theorem join_err {B K : Int} {ls : List (List UInt8)} (h : cutCheck B K ≠ 0) : joinUp B K ls = ([], cutCheck B K) := if_pos h
theorem join_short {B K : Int} {ls : List (List UInt8)} (h : cutCheck B K = 0) (h2 : (ls.length : Int) ≠ blocksOf B K) : joinUp B K ls = ([], 8) := by
  unfold joinUp; rw [if_neg (by simp [h]), if_pos h2]
theorem join_form {B K : Int} {ls : List (List UInt8)} (h : cutCheck B K = 0) (h2 : (ls.length : Int) = blocksOf B K) {b : List UInt8} (hb : b ∈ ls) (hl : (b.length : Int) ≠ K) : joinUp B K ls = ([], 4) := by
  unfold joinUp
  rw [if_neg (by simp [h]), if_neg (by simp [h2]), if_pos]
  rw [List.all_eq_false]
  exact ⟨b, hb, by simpa using hl⟩
theorem join_behind {B K : Int} {ls : List (List UInt8)} (h : cutCheck B K = 0) (h2 : (ls.length : Int) = blocksOf B K) (h3 : ∀ b ∈ ls, (b.length : Int) = K) {x : UInt8} {i : Nat} (hx : (ls.flatten.drop B.toNat)[i]? = some x) (hn : x ≠ 0) : joinUp B K ls = ([], 4) := by
  unfold joinUp
  rw [if_neg (by simp [h]), if_neg (by simp [h2]), if_neg (by simpa using h3), if_pos]
  rw [List.all_eq_false]
  exact ⟨x, List.mem_of_getElem? hx, by simpa using hn⟩
theorem join_ok {B K : Int} {ls : List (List UInt8)} (h : cutCheck B K = 0) (h2 : (ls.length : Int) = blocksOf B K) (h3 : ∀ b ∈ ls, (b.length : Int) = K) (h4 : ∀ x ∈ ls.flatten.drop B.toNat, x = 0) : joinUp B K ls = (ls.flatten.take B.toNat, 0) := by
  unfold joinUp
  rw [if_neg (by simp [h]), if_neg (by simp [h2]), if_neg (by simpa using h3), if_neg (by simpa using h4)]
theorem length_flatten {K : Nat} : ∀ {ls : List (List UInt8)}, (∀ b ∈ ls, b.length = K) → ls.flatten.length = ls.length * K
  | [], _ => by simp
  | b :: r, h => by
    rw [List.flatten_cons, List.length_append, h b (by simp), length_flatten (ls := r) (fun x hx => h x (by simp [hx])), List.length_cons, Nat.add_mul]
    omega
theorem blocks_hold {B K : Nat} (h : cutCheck B K = 0) {m : Nat} (hm : (m : Int) = blocksOf B K) : B ≤ m * K ∧ m ≤ 24 := by
  obtain ⟨h1, h2, h3, h4, h5⟩ := cutCheck_ok h
  have hK : 0 < K := by omega
  have e : m = (B - 1) / K + 1 := by
    have : ((B : Int) - 1) / K = (((B - 1) / K : Nat) : Int) := by
      rw [show ((B : Int) - 1) = ((B - 1 : Nat) : Int) from by omega]; simp
    omega
  have := Nat.div_add_mod (B - 1) K
  have := Nat.mod_lt (B - 1) hK
  refine ⟨?_, by omega⟩
  rw [e, Nat.add_mul, Nat.mul_comm]
  omega

theorem cutF_count {B K : Nat} {c : List UInt8} (h : cutCheck B K = 0) (hl : c.length = B) : 1 ≤ (cutF K B c).length ∧ (cutF K B c).length ≤ 24 ∧ ((cutF K B c).length : Int) = blocksOf B K := by
  obtain ⟨h1, h2, h3, h4, h5⟩ := cutCheck_ok h
  have e1 := cutF_length (K := K) (by omega) B c (by omega)
  have e2 : (((c.length + K - 1) / K : Nat) : Int) = ((B : Int) - 1) / K + 1 := by
    rw [hl, show B + K - 1 = (B - 1) + K from by omega, Nat.add_div_right _ (by omega)]
    have : ((B : Int) - 1) / K = (((B - 1) / K : Nat) : Int) := by
      rw [show ((B : Int) - 1) = ((B - 1 : Nat) : Int) from by omega]; simp
    rw [this]; omega
  omega
/-- What is cut is joined. -/
theorem join_cut {B K : Nat} {c : List UInt8} (h : cutCheck B K = 0) (hl : c.length = B) : joinUp B K (cutF K B c) = (c, 0) := by
  obtain ⟨h1, h2, h3, h4, h5⟩ := cutCheck_ok h
  obtain ⟨z, hz⟩ := cutF_flatten (K := K) (by omega) B c (by omega)
  rw [join_ok h (cutF_count h hl).2.2 (fun b hb => by rw [cutF_all (by omega) B c b hb])]
  · rw [hz, Int.toNat_natCast, List.take_left' hl]
  · intro x hx
    rw [hz, Int.toNat_natCast, List.drop_left' hl] at hx
    exact (List.mem_replicate.1 hx).2

end Go.Proofs.YtmiaplgfbphfmaaGreatDoor
namespace Go.Proofs.YtmiaplgfbphfmaaGreatDoor
open Go.RowKit

theorem cutBlocks_any (w : World) (B K : Int) (hB : wfI B) (hK : wfI K) :
    Calls Tryz.prog 59 #[.agg #[.int .i64 B, .int .i64 K]] w fun e w' => e = .returned (.int .i64 (blocksOf B K)) ∧ Fr w w' := by
  obtain ⟨hB1, hB2⟩ := hB.bd
  obtain ⟨hK1, hK2⟩ := hK.bd
  by_cases h : K < 1 ∨ B < 1
  · have E : Hid (blocksOf B K = 0) := if_pos h
    by_cases h1 : K < 1
    · clear h hB1 hB2 hK1 hK2
      go_enter Tryz.func59, Tryz.ntmps59
      go_wp2
      go_ret
      exact ⟨retI E.out.symm, (by (repeat' (first | exact Below.refl _ _ | refine below_drewN ?_ _ | refine Below.drew ?_ | refine frA ?_ _ | refine Fr.trans ?_ Hf1.out)))⟩
    · have h2 : B < 1 := by omega
      clear h hB1 hB2 hK1 hK2
      go_enter Tryz.func59, Tryz.ntmps59
      go_wp2
      go_ret
      exact ⟨retI E.out.symm, (by (repeat' (first | exact Below.refl _ _ | refine below_drewN ?_ _ | refine Below.drew ?_ | refine frA ?_ _ | refine Fr.trans ?_ Hf1.out)))⟩
  · have E : Hid (blocksOf B K = (B - 1) / K + 1) := if_neg h
    have h1 : ¬ K < 1 := by omega
    have h2 : ¬ B < 1 := by omega
    have e1 : wrap64 (B - 1) = B - 1 := IntWalk.wrap64_in _ (by omega)
    have h4 : 0 ≤ (B - 1) / K := Int.ediv_nonneg (by omega) (by omega)
    have h5 : (B - 1) / K ≤ B - 1 := Int.ediv_le_self _ (by omega)
    clear h
    go_enter Tryz.func59, Tryz.ntmps59
    go_wp2
    go_ret
    exact ⟨retI E.out.symm, (by (repeat' (first | exact Below.refl _ _ | refine below_drewN ?_ _ | refine Below.drew ?_ | refine frA ?_ _ | refine Fr.trans ?_ Hf1.out)))⟩

/-- A box of a struct of two ints, still there. -/
theorem box2 {w w1 : World} {a b : Value} {t : TypeId} (hf : Fr (w.alloc (.cells #[a, b] t)) w1) : w1.cell? ⟨w.heap.size, 0, none⟩ = some a ∧ w1.cell? ⟨w.heap.size, 1, none⟩ = some b :=
  ⟨(hf.cell (p := ⟨w.heap.size, 0, none⟩) (by simp)).trans (cell_of_heap (heap_new rfl)), (hf.cell (p := ⟨w.heap.size, 1, none⟩) (by simp)).trans (cell_of_heap (heap_new rfl))⟩

set_option maxHeartbeats 400000 in
theorem cutCheck_any (w : World) (B K : Int) (hB : wfI B) (hK : wfI K) :
    Calls Tryz.prog 139 #[.agg #[.int .i64 B, .int .i64 K]] w fun e w' => e = .returned (.int .i64 (cutCheck B K)) ∧ Fr w w' := by
  by_cases h : B < 1 ∨ 360 < B ∨ K < 1 ∨ 16 < K
  · have E : Hid (cutCheck B K = 3) := if_pos h
    by_cases h1 : B < 1
    · clear h
      go_enter Tryz.func139, Tryz.ntmps139
      go_wp2_with fail
      go_ret
      exact ⟨retI E.out.symm, (by (repeat' (first | exact Below.refl _ _ | refine below_drewN ?_ _ | refine Below.drew ?_ | refine frA ?_ _ | refine Fr.trans ?_ Hf1.out)))⟩
    · by_cases h2 : 360 < B
      · clear h
        go_enter Tryz.func139, Tryz.ntmps139
        go_wp2_with fail
        go_ret
        exact ⟨retI E.out.symm, (by (repeat' (first | exact Below.refl _ _ | refine below_drewN ?_ _ | refine Below.drew ?_ | refine frA ?_ _ | refine Fr.trans ?_ Hf1.out)))⟩
      · by_cases h3 : K < 1
        · clear h
          go_enter Tryz.func139, Tryz.ntmps139
          go_wp2_with fail
          go_ret
          exact ⟨retI E.out.symm, (by (repeat' (first | exact Below.refl _ _ | refine below_drewN ?_ _ | refine Below.drew ?_ | refine frA ?_ _ | refine Fr.trans ?_ Hf1.out)))⟩
        · have h4 : 16 < K := by omega
          clear h
          go_enter Tryz.func139, Tryz.ntmps139
          go_wp2_with fail
          go_ret
          exact ⟨retI E.out.symm, (by (repeat' (first | exact Below.refl _ _ | refine below_drewN ?_ _ | refine Below.drew ?_ | refine frA ?_ _ | refine Fr.trans ?_ Hf1.out)))⟩
  · have h1 : ¬ B < 1 := by omega
    have h2 : ¬ 360 < B := by omega
    have h3 : ¬ K < 1 := by omega
    have h4 : ¬ 16 < K := by omega
    have E : Hid (cutCheck B K = if 24 < blocksOf B K then 2 else 0) := if_neg h
    clear h
    by_cases h5 : 24 < blocksOf B K
    all_goals
      have E2 := Lib.hid h5
      go_enter Tryz.func139, Tryz.ntmps139
      go_wp2_with fail
      refine (cutBlocks_any _ _ _ hB hK).mono ?_
      rintro e w1 ⟨rfl, hf1⟩
      (have Hf1 := Lib.hid hf1; clear hf1)
      go_wp2_with fail
      go_ret
      exact ⟨retI (by rw [E.out]; simp [E2.out]), (by (repeat' (first | exact Below.refl _ _ | refine below_drewN ?_ _ | refine Below.drew ?_ | refine frA ?_ _ | refine Fr.trans ?_ Hf1.out)))⟩

end Go.Proofs.YtmiaplgfbphfmaaGreatDoor
namespace Go.Proofs.YtmiaplgfbphfmaaGreatDoor
open Go.RowKit

def zx (a b : List UInt8) : List UInt8 := List.zipWith (· ^^^ ·) a b
def zeros (n : Nat) : List UInt8 := List.replicate n 0
def xorAll (n : Nat) (ls : List (List UInt8)) : List UInt8 := ls.foldl zx (zeros n)
theorem length_zx {a b : List UInt8} (h : a.length = b.length) : (zx a b).length = a.length := by simp [zx, h]
theorem length_xorAll {n : Nat} : ∀ {ls : List (List UInt8)} {acc : List UInt8}, (∀ l ∈ ls, l.length = n) → acc.length = n → (ls.foldl zx acc).length = n
  | [], _, _, h => h
  | b :: r, acc, h, ha => length_xorAll (ls := r) (fun l hl => h l (by simp [hl])) (by rw [length_zx (by rw [ha, h b (by simp)])]; exact ha)

/-- A sum, done as far as place i. -/
def xorTo (acc b : List UInt8) (i : Nat) : List UInt8 := (zx acc b).take i ++ acc.drop i
theorem xorTo_zero (acc b : List UInt8) : xorTo acc b 0 = acc := by simp [xorTo]
theorem xorTo_all {acc b : List UInt8} {n : Nat} (ha : acc.length = n) (hb : b.length = n) : xorTo acc b n = zx acc b := by
  rw [xorTo, List.drop_eq_nil_of_le (by omega), List.take_of_length_le (by rw [length_zx (by omega)]; omega), List.append_nil]
theorem length_xorTo {acc b : List UInt8} {i : Nat} (h : acc.length = b.length) (hi : i ≤ acc.length) : (xorTo acc b i).length = acc.length := by
  simp [xorTo, length_zx h]; omega
theorem xorTo_get {acc b : List UInt8} {i : Nat} {x : UInt8} (h : acc.length = b.length) (hx : acc[i]? = some x) : (xorTo acc b i)[i]? = some x := by
  have hi := (List.getElem?_eq_some_iff.1 hx).1
  rw [xorTo, List.getElem?_append_right (by rw [List.length_take]; omega), List.length_take, length_zx h, Nat.min_eq_left (by omega), Nat.sub_self, List.getElem?_drop]
  simpa using hx
theorem xorTo_succ {acc b : List UInt8} {i : Nat} {x y : UInt8} (h : acc.length = b.length) (hx : acc[i]? = some x) (hy : b[i]? = some y) : (xorTo acc b i).set i (x ^^^ y) = xorTo acc b (i + 1) := by
  have hi := (List.getElem?_eq_some_iff.1 hx).1
  have hz : (zx acc b)[i]? = some (x ^^^ y) := by simp [zx, List.getElem?_zipWith, hx, hy]
  have hl : ((zx acc b).take i).length = i := by rw [List.length_take, length_zx h]; omega
  rw [xorTo, xorTo, take_snoc' hz, drop_cons hx, List.set_append_right _ _ (by omega), hl, Nat.sub_self, List.set_cons_zero, List.append_assoc]
  rfl

end Go.Proofs.YtmiaplgfbphfmaaGreatDoor
namespace Go.Proofs.YtmiaplgfbphfmaaGreatDoor

/-- Those that are in. -/
def sel {α : Type} (has : List Bool) (bl : List α) : List α := ((has.zip bl).filter (·.1)).map (·.2)
theorem sel_mem {α : Type} {has : List Bool} {bl : List α} {x : α} (h : x ∈ sel has bl) : x ∈ bl := by
  unfold sel at h
  obtain ⟨p, hp, rfl⟩ := List.mem_map.1 h
  exact (List.of_mem_zip (List.mem_filter.1 hp).1).2
end Go.Proofs.YtmiaplgfbphfmaaGreatDoor
namespace Go.Proofs.YtmiaplgfbphfmaaGreatDoor
open Go.RowKit

/-- What code.Check answers. -/
def codeCheck (B K id : Int) (len : Nat) : Int := if cutCheck B K ≠ 0 then cutCheck B K else if id < 0 ∨ 9999 < id then 3 else if (len : Int) ≠ K then 4 else 0

set_option maxHeartbeats 1000000 in
theorem codeCheck_any (w : World) (B K id : Int) (A : Option Addr) (n c : Nat) (wB : wfI B) (wK : wfI K) :
    Calls Tryz.prog 104 #[.agg #[.int .i64 B, .int .i64 K], .agg #[.int .i64 id, .slice A n c]] w fun e w' => e = .returned (.int .i64 (codeCheck B K id n)) ∧ Fr w w' := by
  have CC := Lib.hid (fun W : World => cutCheck_any W B K wB wK)
  by_cases hck : cutCheck B K = 0
  · rw [hck] at CC
    have E : Hid (codeCheck B K id n = if id < 0 ∨ 9999 < id then 3 else if (n : Int) ≠ K then 4 else 0) := by unfold codeCheck Hid; rw [if_neg (by simp [hck])]
    clear hck
    by_cases h1 : id < 0
    · have E1 : Hid (codeCheck B K id n = 3) := by rw [Hid, E.out, if_pos (.inl h1)]
      go_enter Tryz.func104, Tryz.ntmps104
      go_wp2_with fail
      refine (CC.out _).mono ?_
      rintro e w1 ⟨rfl, hf1⟩
      have hz := blk_go (heap_new (w := w.alloc (.cells #[.int .i64 B, .int .i64 K] 32)) (o := .cells #[.int .i64 id, .slice A n c] 38) rfl) hf1
      have hp := blk_go (heap_old (o := .cells #[.int .i64 id, .slice A n c] 38) (heap_new (w := w) (o := .cells #[.int .i64 B, .int .i64 K] 32) rfl)) hf1
      simp only [World.size_alloc] at hz
      have z0 := cell_of_heap (i := 0) hz
      have z1 := cell_of_heap (i := 1) hz
      have p1 := cell_of_heap (i := 1) hp
      (have Hz := Lib.hid hz; clear hz; have Hp := Lib.hid hp; clear hp; have Hf1 := Lib.hid hf1; clear hf1)
      go_wp2_with fail
      go_ret
      exact ⟨retI E1.out.symm, (by (repeat' (first | exact Below.refl _ _ | refine below_drewN ?_ _ | refine Below.drew ?_ | refine frA ?_ _ | refine Fr.trans ?_ Hf1.out)))⟩
    · by_cases h2 : 9999 < id
      · have E1 : Hid (codeCheck B K id n = 3) := by rw [Hid, E.out, if_pos (.inr h2)]
        go_enter Tryz.func104, Tryz.ntmps104
        go_wp2_with fail
        refine (CC.out _).mono ?_
        rintro e w1 ⟨rfl, hf1⟩
        have hz := blk_go (heap_new (w := w.alloc (.cells #[.int .i64 B, .int .i64 K] 32)) (o := .cells #[.int .i64 id, .slice A n c] 38) rfl) hf1
        have hp := blk_go (heap_old (o := .cells #[.int .i64 id, .slice A n c] 38) (heap_new (w := w) (o := .cells #[.int .i64 B, .int .i64 K] 32) rfl)) hf1
        simp only [World.size_alloc] at hz
        have z0 := cell_of_heap (i := 0) hz
        have z1 := cell_of_heap (i := 1) hz
        have p1 := cell_of_heap (i := 1) hp
        (have Hz := Lib.hid hz; clear hz; have Hp := Lib.hid hp; clear hp; have Hf1 := Lib.hid hf1; clear hf1)
        go_wp2_with fail
        go_ret
        exact ⟨retI E1.out.symm, (by (repeat' (first | exact Below.refl _ _ | refine below_drewN ?_ _ | refine Below.drew ?_ | refine frA ?_ _ | refine Fr.trans ?_ Hf1.out)))⟩
      · by_cases h3 : (n : Int) = K
        · have E1 : Hid (codeCheck B K id n = 0) := by rw [Hid, E.out, if_neg (by omega), if_neg (by simp [h3])]
          have hne : ((n : Int) != K) = false := by rw [h3]; simp
          clear h3
          go_enter Tryz.func104, Tryz.ntmps104
          go_wp2_with fail
          refine (CC.out _).mono ?_
          rintro e w1 ⟨rfl, hf1⟩
          have hz := blk_go (heap_new (w := w.alloc (.cells #[.int .i64 B, .int .i64 K] 32)) (o := .cells #[.int .i64 id, .slice A n c] 38) rfl) hf1
          have hp := blk_go (heap_old (o := .cells #[.int .i64 id, .slice A n c] 38) (heap_new (w := w) (o := .cells #[.int .i64 B, .int .i64 K] 32) rfl)) hf1
          simp only [World.size_alloc] at hz
          have z0 := cell_of_heap (i := 0) hz
          have z1 := cell_of_heap (i := 1) hz
          have p1 := cell_of_heap (i := 1) hp
          (have Hz := Lib.hid hz; clear hz; have Hp := Lib.hid hp; clear hp; have Hf1 := Lib.hid hf1; clear hf1)
          go_wp2_with fail
          go_ret
          exact ⟨retI E1.out.symm, (by (repeat' (first | exact Below.refl _ _ | refine below_drewN ?_ _ | refine Below.drew ?_ | refine frA ?_ _ | refine Fr.trans ?_ Hf1.out)))⟩
        · have E1 : Hid (codeCheck B K id n = 4) := by rw [Hid, E.out, if_neg (by omega), if_pos h3]
          have hne : ((n : Int) != K) = true := by rw [bne_iff_ne]; exact h3
          clear h3
          go_enter Tryz.func104, Tryz.ntmps104
          go_wp2_with fail
          refine (CC.out _).mono ?_
          rintro e w1 ⟨rfl, hf1⟩
          have hz := blk_go (heap_new (w := w.alloc (.cells #[.int .i64 B, .int .i64 K] 32)) (o := .cells #[.int .i64 id, .slice A n c] 38) rfl) hf1
          have hp := blk_go (heap_old (o := .cells #[.int .i64 id, .slice A n c] 38) (heap_new (w := w) (o := .cells #[.int .i64 B, .int .i64 K] 32) rfl)) hf1
          simp only [World.size_alloc] at hz
          have z0 := cell_of_heap (i := 0) hz
          have z1 := cell_of_heap (i := 1) hz
          have p1 := cell_of_heap (i := 1) hp
          (have Hz := Lib.hid hz; clear hz; have Hp := Lib.hid hp; clear hp; have Hf1 := Lib.hid hf1; clear hf1)
          go_wp2_with fail
          go_ret
          exact ⟨retI E1.out.symm, (by (repeat' (first | exact Below.refl _ _ | refine below_drewN ?_ _ | refine Below.drew ?_ | refine frA ?_ _ | refine Fr.trans ?_ Hf1.out)))⟩
  · have E1 : Hid (codeCheck B K id n = cutCheck B K) := if_pos hck
    have hne : (cutCheck B K != 0) = true := by rw [bne_iff_ne]; exact hck
    clear hck
    go_enter Tryz.func104, Tryz.ntmps104
    go_wp2_with fail
    refine (CC.out _).mono ?_
    rintro e w1 ⟨rfl, hf1⟩
    have hz := blk_go (heap_new (w := w.alloc (.cells #[.int .i64 B, .int .i64 K] 32)) (o := .cells #[.int .i64 id, .slice A n c] 38) rfl) hf1
    have hp := blk_go (heap_old (o := .cells #[.int .i64 id, .slice A n c] 38) (heap_new (w := w) (o := .cells #[.int .i64 B, .int .i64 K] 32) rfl)) hf1
    simp only [World.size_alloc] at hz
    have z0 := cell_of_heap (i := 0) hz
    have z1 := cell_of_heap (i := 1) hz
    have p1 := cell_of_heap (i := 1) hp
    (have Hz := Lib.hid hz; clear hz; have Hp := Lib.hid hp; clear hp; have Hf1 := Lib.hid hf1; clear hf1)
    go_wp2_with fail
    go_ret
    exact ⟨retI E1.out.symm, (by (repeat' (first | exact Below.refl _ _ | refine below_drewN ?_ _ | refine Below.drew ?_ | refine frA ?_ _ | refine Fr.trans ?_ Hf1.out)))⟩
theorem codeCheck_ok {B K id : Int} {len : Nat} (h : codeCheck B K id len = 0) : cutCheck B K = 0 ∧ (0 ≤ id ∧ id ≤ 9999) ∧ (len : Int) = K := by
  unfold codeCheck at h
  split at h
  · rename_i h1; exact absurd h h1
  · split at h
    · cases h
    · split at h
      · cases h
      · rename_i h1 h2 h3
        simp only [ne_eq, Decidable.not_not] at h1 h3
        exact ⟨h1, by omega, h3⟩
theorem codeCheck_of {B K id : Int} {len : Nat} (h1 : cutCheck B K = 0) (h2 : 0 ≤ id ∧ id ≤ 9999) (h3 : (len : Int) = K) : codeCheck B K id len = 0 := by
  unfold codeCheck
  rw [if_neg (by simp [h1]), if_neg (by omega), if_neg (by simp [h3])]
end Go.Proofs.YtmiaplgfbphfmaaGreatDoor
namespace Go.Proofs.YtmiaplgfbphfmaaGreatDoor
open Go.RowKit

end Go.Proofs.YtmiaplgfbphfmaaGreatDoor
