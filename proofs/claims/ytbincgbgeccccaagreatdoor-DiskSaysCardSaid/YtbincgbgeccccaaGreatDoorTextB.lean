/- How long the texts of records are. No condition; no program in sight. -/
import Derived.Test.YtbincgbgeccccaaGreatDoorTextP
set_option linter.unusedSimpArgs false
set_option linter.unusedVariables false
namespace Go.Proofs.YtbincgbgeccccaaGreatDoor

theorem dec_len (u : Nat) : (Lib.decDigits u).length ≤ u + 1 := by
  induction u using Nat.strongRecOn with
  | _ u ih =>
    rw [Lib.decDigits]
    split
    · simp
    · have := ih (u / 10) (by omega)
      simp only [List.length_append, List.length_singleton]; omega
theorem itoa_len {n : Int} (h : 0 ≤ n ∧ n ≤ 1000000) : (Lib.itoa n).length ≤ 1000001 := by
  unfold Lib.itoa
  rw [if_neg (by omega)]
  have := dec_len n.toNat
  omega
theorem recCheck_uses {r : Rc} (e : recCheck r = 0) : (r.kind ≠ 2 → r.s.id = 0 ∧ r.s.data.length = 0) ∧ (r.kind ≠ 1 → r.kind ≠ 3 → r.cargo.length = 0) := by
  unfold recCheck at e
  split at e
  · cases e
  split at e
  · cases e
  rename_i a1 a2
  refine ⟨fun h => ?_, fun h h' => ?_⟩
  · have hs : usS r.kind = false := by simp [usS, h]
    simp only [hs, true_and, not_or, ne_eq, Decidable.not_not] at a2
    have := a2.2.2.2.2.1
    omega
  · have hs : usC r.kind = false := by simp [usC, h, h']
    simp only [hs, true_and, not_or, ne_eq, Decidable.not_not] at a2
    have := a2.2.2.2.2.2
    omega
theorem recCheck_len {r : Rc} (e : recCheck r = 0) : r.s.data.length ≤ 16 ∧ r.cargo.length ≤ 360 := by
  have h := recCheck_ok e
  obtain ⟨h1, h2⟩ := recCheck_uses e
  refine ⟨?_, ?_⟩
  · by_cases hk : r.kind = 2
    · obtain ⟨c1, c2, c3⟩ := codeCheck_ok (h.sym hk)
      have := (cutCheck_ok c1).2.1
      omega
    · rw [(h1 hk).2]; omega
  · by_cases hk : r.kind = 1 ∨ r.kind = 3
    · have hc := h.cargo hk
      have hh := hdCheck_bd (h.head (by omega))
      have := (cutCheck_ok hh.2.2.2.2.2).1
      omega
    · rw [h2 (by omega) (by omega)]; omega
theorem recInts_bd {r : Rc} (e : recCheck r = 0) : ∀ n ∈ recInts r, 0 ≤ n ∧ n ≤ 1000000 := by
  have h := recCheck_ok e
  obtain ⟨h1, h2⟩ := recCheck_uses e
  have hk := h.kind
  have hp := h.place
  have ht := h.try_
  have hn := h.n
  have hh : (0 ≤ r.h.frm ∧ r.h.frm ≤ 1000000) ∧ (0 ≤ r.h.seq ∧ r.h.seq ≤ 1000000) ∧ (0 ≤ r.h.to ∧ r.h.to ≤ 1000000) ∧ (0 ≤ r.h.till ∧ r.h.till ≤ 1000000) ∧ (0 ≤ r.h.bytes ∧ r.h.bytes ≤ 1000000) ∧ (0 ≤ r.h.block ∧ r.h.block ≤ 1000000) := by
    by_cases h8 : r.kind = 8
    · rw [h.tick h8]; decide
    · obtain ⟨a1, a2, a3, a4, a5, a6⟩ := hdCheck_bd (h.head h8)
      have := cutCheck_ok a6
      omega
  have hs : 0 ≤ r.s.id ∧ r.s.id ≤ 1000000 := by
    by_cases h2' : r.kind = 2
    · have := (codeCheck_ok (h.sym h2')).2.1; omega
    · rw [(h1 h2').1]; decide
  intro n hn'
  simp only [recInts, List.mem_cons, List.not_mem_nil, or_false] at hn'
  rcases hn' with rfl | rfl | rfl | rfl | rfl | rfl | rfl | rfl | rfl | rfl | rfl <;> omega
theorem join_len (c : UInt8) (m : Nat) : ∀ (ws : List (List UInt8)), (∀ w ∈ ws, w.length ≤ m) → (Lib.join ws [c]).length ≤ ws.length * (m + 1)
  | [], _ => by simp [Lib.join_nil]
  | [w], h => by rw [Lib.join_one]; have := h w (by simp); simp; omega
  | w :: v :: ws, h => by
    have ih := join_len c m (v :: ws) fun x hx => h x (List.mem_cons_of_mem _ hx)
    have := h w (by simp)
    rw [join_cons2]
    simp only [List.length_append, List.length_cons, List.length_nil] at ih ⊢
    have e : (ws.length + 1 + 1) * (m + 1) = (ws.length + 1) * (m + 1) + (m + 1) := Nat.succ_mul ..
    rw [e]
    generalize (ws.length + 1) * (m + 1) = T at ih ⊢
    omega
theorem recText_len {r : Rc} (e : recCheck r = 0) : (recText r).length ≤ 20000000 := by
  obtain ⟨h1, h2⟩ := recCheck_len e
  have := join_len 32 1000001 (recWords r) fun w hw => by
    unfold recWords at hw
    rcases List.mem_append.1 hw with hw | hw
    · obtain ⟨n, hn, rfl⟩ := List.mem_map.1 hw
      exact itoa_len (recInts_bd e n hn)
    · simp only [List.mem_cons, List.not_mem_nil, or_false] at hw
      rcases hw with rfl | rfl <;> simp only [List.length_cons, hexE_length] <;> omega
  rw [recWords_length] at this
  unfold recText
  omega
end Go.Proofs.YtbincgbgeccccaaGreatDoor
