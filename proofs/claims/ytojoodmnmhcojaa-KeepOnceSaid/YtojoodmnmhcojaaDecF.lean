/- What solve.Decode answers, plainly. No condition; no program in sight. -/
import Derived.Test.YtojoodmnmhcojaaDecP
import Derived.Test.YtojoodmnmhcojaaCode
set_option linter.unusedSimpArgs false
set_option linter.unusedVariables false
namespace Go.Proofs.Ytojoodmnmhcojaa

def decRows (b : Nat) (B K : Int) : List Rw → List Sm → List Rw × Int
  | rows, [] => (rows, 0)
  | rows, x :: xs =>
    if codeCheck B K x.id x.data.length ≠ 0 then ([], codeCheck B K x.id x.data.length)
    else if (sysAdd ⟨b, K, rows⟩ (symRow b x)).2.2 ≠ 0 then ([], (sysAdd ⟨b, K, rows⟩ (symRow b x)).2.2)
    else decRows b B K (sysAdd ⟨b, K, rows⟩ (symRow b x)).1.rows xs
/-- What solve.Decode answers. -/
def decodeF (B K : Int) (xs : List Sm) : List UInt8 × Int :=
  if cutCheck B K ≠ 0 then ([], cutCheck B K)
  else if 60 < xs.length then ([], 2)
  else if (decRows (blocksOf B K).toNat B K [] xs).2 ≠ 0 then ([], (decRows (blocksOf B K).toNat B K [] xs).2)
  else if (decRows (blocksOf B K).toNat B K [] xs).1.length < (blocksOf B K).toNat then ([], 8)
  else joinUp B K (knownF (blocksOf B K).toNat (decRows (blocksOf B K).toNat B K [] xs).1)
theorem codeCheck_ok {B K id : Int} {len : Nat} (h : codeCheck B K id len = 0) : cutCheck B K = 0 ∧ (0 ≤ id ∧ id ≤ 9999) ∧ (len : Int) = K := by
  unfold codeCheck at h
  split at h
  · rename_i h1; exact absurd h h1
  · split at h
    · cases h
    · split at h
      · cases h
      · rename_i h1 h2 h3
        simp only [ne_eq, Decidable.not_not] at h1 h3
        exact ⟨h1, by omega, h3⟩
theorem codeCheck_of {B K id : Int} {len : Nat} (h1 : cutCheck B K = 0) (h2 : 0 ≤ id ∧ id ≤ 9999) (h3 : (len : Int) = K) : codeCheck B K id len = 0 := by
  unfold codeCheck
  rw [if_neg (by simp [h1]), if_neg (by omega), if_neg (by simp [h3])]
/-- Where no symbol was refused. -/
theorem decRows_made {b K : Nat} {B : Int} (hB : 1 ≤ b ∧ b ≤ 24) (hK : 1 ≤ K ∧ K ≤ 16) : ∀ (xs ys : List Sm) (rows : List Rw), Made b K ys rows → (decRows b B K rows xs).2 = 0 → Made b K (ys ++ xs) (decRows b B K rows xs).1 ∧ ∀ x ∈ xs, codeCheck B K x.id x.data.length = 0
  | [], ys, rows, h, _ => ⟨by rw [List.append_nil]; exact h, fun _ h => by cases h⟩
  | x :: xs, ys, rows, h, h0 => by
    rw [decRows] at h0 ⊢
    by_cases h1 : codeCheck B K x.id x.data.length = 0
    · rw [if_neg (by simp [h1])] at h0 ⊢
      by_cases h2 : (sysAdd ⟨b, K, rows⟩ (symRow b x)).2.2 = 0
      · rw [if_neg (by simp [h2])] at h0 ⊢
        have hf : Fit b K (symRow b x) := ⟨length_pickHas _ _, by have := (codeCheck_ok h1).2.2; show x.data.length = K; omega⟩
        obtain ⟨b', k', e1, e2, _, _, _, _, _, e3, e4, _⟩ := sysAdd_ok0 h2
        have e : sysAdd ⟨b, K, rows⟩ (symRow b x) = (⟨b, K, (sysAdd ⟨b, K, rows⟩ (symRow b x)).1.rows⟩, (sysAdd ⟨b, K, rows⟩ (symRow b x)).2.1, 0) := by
          refine Prod.ext ?_ (Prod.ext rfl h2)
          cases hq : (sysAdd ⟨b, K, rows⟩ (symRow b x)).1 with
          | mk q1 q2 q3 =>
            rw [hq] at e3 e4
            simp only [] at e3 e4
            rw [e3, e4, ← e1, ← e2]
        have hm := (made_snoc hB hK h hf e).1
        obtain ⟨h3, h4⟩ := decRows_made hB hK xs (ys ++ [x]) _ hm h0
        refine ⟨by rw [List.append_assoc] at h3; exact h3, fun y hy => ?_⟩
        rcases List.mem_cons.1 hy with rfl | hy
        · exact h1
        · exact h4 y hy
      · rw [if_pos h2] at h0; exact absurd h0 h2
    · rw [if_pos h1] at h0; exact absurd h0 h1
/-- Symbols of one cargo are never refused. -/
theorem decRows_hold {b K : Nat} {B : Int} {bl : List (List UInt8)} (hB : 1 ≤ b ∧ b ≤ 24) (hK : 1 ≤ K ∧ K ≤ 16) (hc : cutCheck B K = 0) : ∀ (xs ys : List Sm) (rows : List Rw), Made b K ys rows → (∀ x ∈ ys ++ xs, Fit b K (symRow b x) ∧ Hold bl (vc (symRow b x)) ∧ 0 ≤ x.id ∧ x.id ≤ 9999) → (decRows b B K rows xs).2 = 0
  | [], _, _, _, _ => rfl
  | x :: xs, ys, rows, h, hall => by
    obtain ⟨hf, hh, hid⟩ := hall x (by simp)
    have h1 : codeCheck B K x.id x.data.length = 0 := codeCheck_of hc hid (by have := hf.2; show ((x.data.length : Nat) : Int) = K; have e : x.data.length = K := this; omega)
    have hspan : ∀ v, Sp (pl rows) v → Hold bl v := fun v hv => Hold.span (fun g ⟨y, hy, e⟩ => by rw [e]; exact (hall y (List.mem_append_left _ hy)).2.1) ((h.span v).1 hv)
    obtain ⟨rows', m, e⟩ := hold_add hB hK h.sys hf hspan hh
    rw [decRows, if_neg (by simp [h1]), e, if_neg (by simp)]
    exact decRows_hold hB hK hc xs (ys ++ [x]) rows' (made_snoc hB hK h hf e).1 (by rw [List.append_assoc]; exact hall)

/-- Symbols that hold of a cargo's blocks. -/
structure SymsOk (B K : Nat) (c : List UInt8) (xs : List Sm) : Prop where
  cut : cutCheck B K = 0
  len : c.length = B
  many : xs.length ≤ 60
  all : ∀ x ∈ xs, SymOk B K c x
theorem SymsOk.hold {B K : Nat} {c : List UInt8} {xs : List Sm} (h : SymsOk B K c xs) : ∀ x ∈ xs, Fit (cutF K B c).length K (symRow (cutF K B c).length x) ∧ Hold (cutF K B c) (vc (symRow (cutF K B c).length x)) ∧ 0 ≤ x.id ∧ x.id ≤ 9999 := fun x hx => by
  obtain ⟨h1, h2⟩ := symOk_hold h.cut h.len (h.all x hx)
  exact ⟨h1, h2, (h.all x hx).id⟩
/-- The rows that symbols of a cargo make. -/
theorem SymsOk.rows {B K : Nat} {c : List UInt8} {xs : List Sm} (h : SymsOk B K c xs) : ∃ rows, Made (cutF K B c).length K xs rows ∧ decodeF B K xs = if rows.length < (cutF K B c).length then ([], 8) else (c, 0) := by
  obtain ⟨q1, q2, q3, hall, hK⟩ := cutF_facts h.cut h.len
  have e0 := decRows_hold (B := (B : Int)) ⟨q1, q2⟩ hK h.cut xs [] [] (made_nil _ _) (by simpa using h.hold)
  obtain ⟨hm, _⟩ := decRows_made (B := (B : Int)) ⟨q1, q2⟩ hK xs [] [] (made_nil _ _) e0
  rw [List.nil_append] at hm
  refine ⟨_, hm, ?_⟩
  unfold decodeF
  have hb : (blocksOf B K).toNat = (cutF K B c).length := by omega
  rw [if_neg (by simp [h.cut]), if_neg (by have := h.many; omega), hb, if_neg (by simp [e0])]
  split
  · rfl
  · rename_i hlt
    have hspan : ∀ v, Sp (pl (decRows (cutF K B c).length B K [] xs).1) v → Hold (cutF K B c) v := fun v hv => Hold.span (fun g ⟨y, hy, e⟩ => by rw [e]; exact (h.hold y hy).2.1) ((hm.span v).1 hv)
    rw [known_full hm.sys hK.1 rfl hall hspan (by omega)]
    exact join_cut h.cut h.len
/-- It is known, or it isn't yet. -/
theorem SymsOk.decode {B K : Nat} {c : List UInt8} {xs : List Sm} (h : SymsOk B K c xs) : decodeF B K xs = ([], 8) ∨ decodeF B K xs = (c, 0) := by
  obtain ⟨rows, _, e⟩ := h.rows
  rw [e]; split
  · exact .inl rfl
  · exact .inr rfl
/-- Whatever else is told, no less is known. -/
theorem SymsOk.more {B K : Nat} {c : List UInt8} {xs ys : List Sm} (h : SymsOk B K c xs) (h' : SymsOk B K c ys) (hle : ∀ x ∈ xs, x ∈ ys) (e : (decodeF B K xs).2 = 0) : decodeF B K ys = (c, 0) := by
  obtain ⟨rows, hm, e1⟩ := h.rows
  obtain ⟨rows', hm', e2⟩ := h'.rows
  have := made_le hm hm' hle
  rw [e1] at e
  rw [e2]
  split at e
  · cases e
  · rw [if_neg (by omega)]
theorem SymsOk.same {B K : Nat} {c : List UInt8} {xs ys : List Sm} (h : SymsOk B K c xs) (h' : SymsOk B K c ys) (hle : ∀ x, x ∈ xs ↔ x ∈ ys) : decodeF B K xs = decodeF B K ys := by
  rcases h.decode with e | e
  · rcases h'.decode with e' | e'
    · rw [e, e']
    · have := h'.more h (fun x hx => (hle x).2 hx) (by rw [e'])
      rw [e] at this; cases this
  · rw [e, h.more h' (fun x hx => (hle x).1 hx) (by rw [e])]
end Go.Proofs.Ytojoodmnmhcojaa
