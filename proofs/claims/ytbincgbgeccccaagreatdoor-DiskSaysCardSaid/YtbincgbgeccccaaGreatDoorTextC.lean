/- How long the texts of records are, told closer. No condition; no program in sight. -/
import Derived.Test.YtbincgbgeccccaaGreatDoorTextB
set_option linter.unusedSimpArgs false
set_option linter.unusedVariables false
namespace Go.Proofs.YtbincgbgeccccaaGreatDoor

theorem dec_len7 : ∀ (k u : Nat), u < 10 ^ (k + 1) → (Lib.decDigits u).length ≤ k + 1
  | 0, u, h => by
    rw [Lib.decDigits, dif_pos (by simpa using h)]; simp
  | k + 1, u, h => by
    rw [Lib.decDigits]
    split
    · simp
    · have := dec_len7 k (u / 10) (by rw [Nat.pow_succ] at h; omega)
      simp only [List.length_append, List.length_singleton]; omega
theorem itoa_len7 {n : Int} (h : 0 ≤ n ∧ n ≤ 1000000) : (Lib.itoa n).length ≤ 7 := by
  unfold Lib.itoa
  rw [if_neg (by omega)]
  exact dec_len7 6 n.toNat (by omega)
theorem recText_len4 {r : Rc} (e : recCheck r = 0) : (recText r).length ≤ 10000 := by
  obtain ⟨h1, h2⟩ := recCheck_len e
  have := join_len 32 721 (recWords r) fun w hw => by
    unfold recWords at hw
    rcases List.mem_append.1 hw with hw | hw
    · obtain ⟨n, hn, rfl⟩ := List.mem_map.1 hw
      have := itoa_len7 (recInts_bd e n hn)
      omega
    · simp only [List.mem_cons, List.not_mem_nil, or_false] at hw
      rcases hw with rfl | rfl <;> simp only [List.length_cons, hexE_length] <;> omega
  rw [recWords_length] at this
  unfold recText
  omega
end Go.Proofs.YtbincgbgeccccaaGreatDoor
