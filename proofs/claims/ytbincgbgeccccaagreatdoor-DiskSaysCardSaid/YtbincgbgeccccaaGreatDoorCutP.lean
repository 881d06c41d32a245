/- Plain laws of cargos in blocks. No condition; no program in sight. -/
import Derived.Below
set_option linter.unusedSimpArgs false
set_option linter.unusedVariables false
namespace Go.Proofs.YtbincgbgeccccaaGreatDoor

def blocksOf (B K : Int) : Int := if K < 1 ∨ B < 1 then 0 else (B - 1) / K + 1
def cutCheck (B K : Int) : Int := if B < 1 ∨ 360 < B ∨ K < 1 ∨ 16 < K then 3 else if 24 < blocksOf B K then 2 else 0
def padTo (K : Nat) (l : List UInt8) : List UInt8 := l ++ List.replicate (K - l.length) 0
def cutF (K : Nat) : Nat → List UInt8 → List (List UInt8)
  | 0, _ => []
  | f + 1, c => if c.length = 0 then [] else padTo K (c.take K) :: cutF K f (c.drop K)
def cutUp (B K : Int) (c : List UInt8) : List (List UInt8) × Int :=
  if cutCheck B K ≠ 0 then ([], cutCheck B K) else if (c.length : Int) ≠ B then ([], 4) else (cutF K.toNat c.length c, 0)
def joinUp (B K : Int) (ls : List (List UInt8)) : List UInt8 × Int :=
  if cutCheck B K ≠ 0 then ([], cutCheck B K) else if (ls.length : Int) ≠ blocksOf B K then ([], 8)
  else if ls.all (fun b => decide ((b.length : Int) = K)) = false then ([], 4)
  else if (ls.flatten.drop B.toNat).all (fun c => decide (c = 0)) = false then ([], 4)
  else (ls.flatten.take B.toNat, 0)

theorem cutCheck_ok {B K : Int} (h : cutCheck B K = 0) : (1 ≤ B ∧ B ≤ 360) ∧ (1 ≤ K ∧ K ≤ 16) ∧ blocksOf B K ≤ 24 ∧ 1 ≤ blocksOf B K ∧ blocksOf B K = (B - 1) / K + 1 := by
  unfold cutCheck at h
  split at h
  · cases h
  · split at h
    · cases h
    · rename_i h1 h2
      have e : blocksOf B K = (B - 1) / K + 1 := by unfold blocksOf; rw [if_neg (by omega)]
      have h3 : 0 ≤ (B - 1) / K := Int.ediv_nonneg (by omega) (by omega)
      omega
theorem length_padTo {K : Nat} {l : List UInt8} (h : l.length ≤ K) : (padTo K l).length = K := by simp [padTo]; omega

theorem cutF_nil (K f : Nat) : cutF K f [] = [] := by cases f <;> simp [cutF]
theorem cutF_fuel {K : Nat} (hK : 1 ≤ K) : ∀ f g c, c.length ≤ f → c.length ≤ g → cutF K f c = cutF K g c
  | 0, g, c, h, _ => by rw [List.eq_nil_of_length_eq_zero (show c.length = 0 by omega), cutF_nil, cutF_nil]
  | f + 1, 0, c, _, h => by rw [List.eq_nil_of_length_eq_zero (show c.length = 0 by omega), cutF_nil, cutF_nil]
  | f + 1, g + 1, c, h, h' => by
    rw [cutF, cutF]
    split
    · rfl
    · rw [cutF_fuel hK f g _ (by rw [List.length_drop]; omega) (by rw [List.length_drop]; omega)]
theorem cutF_step {K : Nat} (hK : 1 ≤ K) {c : List UInt8} (h : 0 < c.length) : cutF K c.length c = padTo K (c.take K) :: cutF K (c.drop K).length (c.drop K) := by
  obtain ⟨f, hf⟩ : ∃ f, c.length = f + 1 := ⟨c.length - 1, by omega⟩
  rw [hf, cutF, if_neg (by omega), cutF_fuel hK f (c.drop K).length _ (by rw [List.length_drop]; omega) (Nat.le_refl _)]
theorem cutF_length {K : Nat} (hK : 1 ≤ K) : ∀ f c, c.length ≤ f → (cutF K f c).length = (c.length + K - 1) / K
  | 0, c, h => by
    have : c.length = 0 := by omega
    rw [cutF, this, Nat.zero_add, Nat.div_eq_of_lt (by omega)]; rfl
  | f + 1, c, h => by
    rw [cutF]
    split
    · rename_i h0
      rw [h0, Nat.zero_add, Nat.div_eq_of_lt (by omega)]; rfl
    · rename_i h0
      rw [List.length_cons, cutF_length hK f _ (by rw [List.length_drop]; omega), List.length_drop]
      by_cases hlt : c.length ≤ K
      · rw [show c.length - K = 0 from by omega, Nat.zero_add, Nat.div_eq_of_lt (by omega)]
        symm
        rw [Nat.div_eq_iff (by omega)]; omega
      · rw [show c.length + K - 1 = (c.length - K + K - 1) + K from by omega, Nat.add_div_right _ (by omega)]
theorem cutF_all {K : Nat} (hK : 1 ≤ K) : ∀ f c, ∀ b ∈ cutF K f c, b.length = K
  | 0, c, b, h => by simp [cutF] at h
  | f + 1, c, b, h => by
    rw [cutF] at h
    split at h
    · simp at h
    · rcases List.mem_cons.1 h with rfl | h
      · exact length_padTo (by rw [List.length_take]; omega)
      · exact cutF_all hK f _ b h
theorem cutF_flatten {K : Nat} (hK : 1 ≤ K) : ∀ f c, c.length ≤ f → ∃ z, (cutF K f c).flatten = c ++ List.replicate z 0
  | 0, c, h => ⟨0, by have : c = [] := List.eq_nil_of_length_eq_zero (by omega); simp [cutF, this]⟩
  | f + 1, c, h => by
    rw [cutF]
    split
    · rename_i h0
      exact ⟨0, by simp [List.eq_nil_of_length_eq_zero h0]⟩
    · rename_i h0
      by_cases hlt : c.length ≤ K
      · refine ⟨K - c.length, ?_⟩
        rw [List.flatten_cons, List.take_of_length_le hlt, List.drop_eq_nil_of_le hlt]
        have : (cutF K f []).flatten = [] := by
          cases f <;> simp [cutF]
        rw [this, padTo, List.append_nil]
      · obtain ⟨z, hz⟩ := cutF_flatten hK f (c.drop K) (by rw [List.length_drop]; omega)
        refine ⟨z, ?_⟩
        rw [List.flatten_cons, hz, padTo, List.length_take, Nat.min_eq_left (by omega), Nat.sub_self, List.replicate_zero, List.append_nil, ← List.append_assoc, List.take_append_drop]

theorem join_err {B K : Int} {ls : List (List UInt8)} (h : cutCheck B K ≠ 0) : joinUp B K ls = ([], cutCheck B K) := if_pos h
theorem join_short {B K : Int} {ls : List (List UInt8)} (h : cutCheck B K = 0) (h2 : (ls.length : Int) ≠ blocksOf B K) : joinUp B K ls = ([], 8) := by
  unfold joinUp; rw [if_neg (by simp [h]), if_pos h2]
theorem join_form {B K : Int} {ls : List (List UInt8)} (h : cutCheck B K = 0) (h2 : (ls.length : Int) = blocksOf B K) {b : List UInt8} (hb : b ∈ ls) (hl : (b.length : Int) ≠ K) : joinUp B K ls = ([], 4) := by
  unfold joinUp
  rw [if_neg (by simp [h]), if_neg (by simp [h2]), if_pos]
  rw [List.all_eq_false]
  exact ⟨b, hb, by simpa using hl⟩
theorem join_behind {B K : Int} {ls : List (List UInt8)} (h : cutCheck B K = 0) (h2 : (ls.length : Int) = blocksOf B K) (h3 : ∀ b ∈ ls, (b.length : Int) = K) {x : UInt8} {i : Nat} (hx : (ls.flatten.drop B.toNat)[i]? = some x) (hn : x ≠ 0) : joinUp B K ls = ([], 4) := by
  unfold joinUp
  rw [if_neg (by simp [h]), if_neg (by simp [h2]), if_neg (by simpa using h3), if_pos]
  rw [List.all_eq_false]
  exact ⟨x, List.mem_of_getElem? hx, by simpa using hn⟩
theorem join_ok {B K : Int} {ls : List (List UInt8)} (h : cutCheck B K = 0) (h2 : (ls.length : Int) = blocksOf B K) (h3 : ∀ b ∈ ls, (b.length : Int) = K) (h4 : ∀ x ∈ ls.flatten.drop B.toNat, x = 0) : joinUp B K ls = (ls.flatten.take B.toNat, 0) := by
  unfold joinUp
  rw [if_neg (by simp [h]), if_neg (by simp [h2]), if_neg (by simpa using h3), if_neg (by simpa using h4)]
theorem length_flatten {K : Nat} : ∀ {ls : List (List UInt8)}, (∀ b ∈ ls, b.length = K) → ls.flatten.length = ls.length * K
  | [], _ => by simp
  | b :: r, h => by
    rw [List.flatten_cons, List.length_append, h b (by simp), length_flatten (ls := r) (fun x hx => h x (by simp [hx])), List.length_cons, Nat.add_mul]
    omega
theorem blocks_hold {B K : Nat} (h : cutCheck B K = 0) {m : Nat} (hm : (m : Int) = blocksOf B K) : B ≤ m * K ∧ m ≤ 24 := by
  obtain ⟨h1, h2, h3, h4, h5⟩ := cutCheck_ok h
  have hK : 0 < K := by omega
  have e : m = (B - 1) / K + 1 := by
    have : ((B : Int) - 1) / K = (((B - 1) / K : Nat) : Int) := by
      rw [show ((B : Int) - 1) = ((B - 1 : Nat) : Int) from by omega]; simp
    omega
  have := Nat.div_add_mod (B - 1) K
  have := Nat.mod_lt (B - 1) hK
  refine ⟨?_, by omega⟩
  rw [e, Nat.add_mul, Nat.mul_comm]
  omega

theorem cutF_take {K : Nat} (hK : 1 ≤ K) : ∀ k f c, c.length ≤ f → (cutF K f c).take k = cutF K f (c.take (k * K))
  | 0, f, c, _ => by simp [cutF_nil]
  | k + 1, 0, c, h => by simp [cutF]
  | k + 1, f + 1, c, h => by
    rw [cutF, cutF]
    have e1 : (k + 1) * K = k * K + K := by rw [Nat.add_mul]; omega
    by_cases h0 : c.length = 0
    · rw [if_pos h0, if_pos (by rw [List.length_take]; omega)]; rfl
    · rw [if_neg h0, if_neg (by rw [List.length_take, e1]; omega), List.take_succ_cons, cutF_take hK k f _ (by rw [List.length_drop]; omega)]
      congr 2
      · rw [List.take_take, Nat.min_eq_left (by omega)]
      · rw [List.drop_take, e1, Nat.add_sub_cancel]

theorem blocksOf_mono {n B K : Int} (h1 : 1 ≤ n) (h2 : n ≤ B) (hK : 1 ≤ K) : blocksOf n K ≤ blocksOf B K := by
  unfold blocksOf
  rw [if_neg (by omega), if_neg (by omega)]
  have := Int.ediv_le_ediv (show 0 < K by omega) (show n - 1 ≤ B - 1 by omega)
  omega
theorem cutCheck_less {n B K : Int} (h : cutCheck B K = 0) (h1 : 1 ≤ n) (h2 : n ≤ B) : cutCheck n K = 0 := by
  obtain ⟨a, b, c, d, e⟩ := cutCheck_ok h
  have := blocksOf_mono h1 h2 b.1
  unfold cutCheck
  rw [if_neg (by omega), if_neg (by omega)]
theorem cutUp_ok {B K : Nat} {c : List UInt8} (h : cutCheck B K = 0) (hl : c.length = B) : cutUp B K c = (cutF K B c, 0) := by
  unfold cutUp
  rw [if_neg (by simp [h]), if_neg (by simp [hl]), hl]
  rfl
theorem cutF_count {B K : Nat} {c : List UInt8} (h : cutCheck B K = 0) (hl : c.length = B) : 1 ≤ (cutF K B c).length ∧ (cutF K B c).length ≤ 24 ∧ ((cutF K B c).length : Int) = blocksOf B K := by
  obtain ⟨h1, h2, h3, h4, h5⟩ := cutCheck_ok h
  have e1 := cutF_length (K := K) (by omega) B c (by omega)
  have e2 : (((c.length + K - 1) / K : Nat) : Int) = ((B : Int) - 1) / K + 1 := by
    rw [hl, show B + K - 1 = (B - 1) + K from by omega, Nat.add_div_right _ (by omega)]
    have : ((B : Int) - 1) / K = (((B - 1) / K : Nat) : Int) := by
      rw [show ((B : Int) - 1) = ((B - 1 : Nat) : Int) from by omega]; simp
    rw [this]; omega
  omega
theorem cutUp_err {B K : Int} {c : List UInt8} (h : (cutUp B K c).2 = 0) : cutCheck B K = 0 ∧ (c.length : Int) = B := by
  unfold cutUp at h
  split at h
  · rename_i h1; exact absurd h h1
  · rename_i h1
    split at h
    · cases h
    · rename_i h2
      exact ⟨by omega, by omega⟩
/-- The first blocks of a cargo are those of its beginning. -/
theorem cut_begins {B K k : Nat} {c : List UInt8} (h : cutCheck B K = 0) (hl : c.length = B) (hk : 1 ≤ k) (hk2 : k ≤ (cutF K B c).length) :
    cutUp (min (k * K) B : Nat) K (c.take (min (k * K) B)) = ((cutF K B c).take k, 0) := by
  obtain ⟨h1, h2, h3, h4, h5⟩ := cutCheck_ok h
  have hkK : K ≤ k * K := Nat.le_mul_of_pos_left _ hk
  have hlen : (c.take (min (k * K) B)).length = min (k * K) B := by rw [List.length_take]; omega
  rw [cutUp_ok (cutCheck_less h (by omega) (by omega)) hlen, cutF_take (by omega) k B c (by omega)]
  have e : c.take (k * K) = c.take (min (k * K) B) := by
    rcases Nat.lt_or_ge B (k * K) with h | h
    · rw [List.take_of_length_le (by omega), List.take_of_length_le (by omega)]
    · rw [Nat.min_eq_left h]
  rw [e, cutF_fuel (by omega) (min (k * K) B) B _ (by omega) (by omega)]

theorem blocks_tight {B K : Nat} (h : cutCheck B K = 0) {m : Nat} (hm : (m : Int) = blocksOf B K) : B ≤ m * K ∧ (m - 1) * K < B ∧ 1 ≤ m ∧ m ≤ 24 := by
  obtain ⟨h1, h2, h3, h4, h5⟩ := cutCheck_ok h
  have hK : 0 < K := by omega
  have e : m = (B - 1) / K + 1 := by
    have : ((B : Int) - 1) / K = (((B - 1) / K : Nat) : Int) := by
      rw [show ((B : Int) - 1) = ((B - 1 : Nat) : Int) from by omega]; simp
    omega
  have d1 := Nat.div_add_mod (B - 1) K
  have d2 := Nat.mod_lt (B - 1) hK
  refine ⟨?_, ?_, by omega, by omega⟩
  · rw [e, Nat.add_mul, Nat.mul_comm]; omega
  · rw [e, Nat.add_sub_cancel, Nat.mul_comm]; omega

/-- What is cut is joined. -/
theorem join_cut {B K : Nat} {c : List UInt8} (h : cutCheck B K = 0) (hl : c.length = B) : joinUp B K (cutF K B c) = (c, 0) := by
  obtain ⟨h1, h2, h3, h4, h5⟩ := cutCheck_ok h
  obtain ⟨z, hz⟩ := cutF_flatten (K := K) (by omega) B c (by omega)
  rw [join_ok h (cutF_count h hl).2.2 (fun b hb => by rw [cutF_all (by omega) B c b hb])]
  · rw [hz, Int.toNat_natCast, List.take_left' hl]
  · intro x hx
    rw [hz, Int.toNat_natCast, List.drop_left' hl] at hx
    exact (List.mem_replicate.1 hx).2

theorem cut_join_aux {K : Nat} (hK : 1 ≤ K) : ∀ (ls : List (List UInt8)) (B : Nat), (∀ b ∈ ls, b.length = K) → (ls.length - 1) * K < B → B ≤ ls.length * K → (∀ x ∈ ls.flatten.drop B, x = 0) → cutF K B (ls.flatten.take B) = ls
  | [], B, _, h1, h2, _ => by simp at h2; omega
  | b :: r, B, hall, h1, h2, hz => by
    have hb := hall b (by simp)
    have hfl : (b :: r).flatten.length = (r.length + 1) * K := by
      have : ∀ {ls : List (List UInt8)}, (∀ b ∈ ls, b.length = K) → ls.flatten.length = ls.length * K := fun h => length_flatten h
      rw [this hall]; rfl
    have hlt : ((b :: r).flatten.take B).length = B := by rw [List.length_take, hfl]; simp at h2; omega
    have hB : 0 < B := by omega
    have hstep := cutF_step hK (c := (b :: r).flatten.take B) (by omega)
    rw [hlt] at hstep
    rw [hstep]
    rcases r with _ | ⟨b2, r⟩
    · simp at h1 h2 hz
      have e1 : (([b] : List (List UInt8)).flatten.take B).drop K = [] := List.drop_eq_nil_of_le (by rw [hlt]; omega)
      rw [e1, cutF_nil, List.take_of_length_le (by rw [hlt]; omega)]
      congr 1
      simp only [List.flatten_cons, List.flatten_nil, List.append_nil, padTo, List.length_take]
      have e2 : List.replicate (K - min B b.length) 0 = b.drop B := by
        apply List.ext_getElem
        · simp; omega
        · intro i h3 h4
          rw [List.getElem_replicate]
          exact (hz _ (List.getElem_mem h4)).symm
      rw [e2, List.take_append_drop]
    · have hle : K ≤ B := by
        simp only [List.length_cons, Nat.add_sub_cancel] at h1
        have : K ≤ (r.length + 1) * K := Nat.le_mul_of_pos_left _ (by omega)
        omega
      have e1 : (((b :: b2 :: r).flatten.take B).take K) = b := by
        rw [List.take_take, Nat.min_eq_left hle, List.flatten_cons, List.take_left' hb]
      have e2 : (((b :: b2 :: r).flatten.take B).drop K) = (b2 :: r).flatten.take (B - K) := by
        rw [List.drop_take, List.flatten_cons, List.drop_left' hb]
      rw [e1, e2]
      have e3 : ((b2 :: r).flatten.take (B - K)).length = B - K := by
        rw [List.length_take]
        have : (b2 :: r).flatten.length = (r.length + 1) * K := by rw [length_flatten (fun x hx => hall x (by simp [List.mem_cons.1 hx]))]; rfl
        rw [this]
        simp only [List.length_cons] at h2
        rw [show r.length + 1 + 1 = (r.length + 1) + 1 from rfl, Nat.add_mul (r.length + 1) 1 K] at h2
        omega
      rw [e3, cut_join_aux hK (b2 :: r) (B - K) (fun x hx => hall x (by simp [List.mem_cons.1 hx]))]
      · congr 1
        rw [padTo, hb, Nat.sub_self, List.replicate_zero, List.append_nil]
      · simp only [List.length_cons, Nat.add_sub_cancel] at h1 ⊢
        rw [Nat.add_mul] at h1
        omega
      · simp only [List.length_cons] at h2 ⊢
        rw [Nat.add_mul (r.length + 1) 1 K] at h2
        omega
      · intro x hx
        refine hz x ?_
        rw [List.flatten_cons, List.drop_append, hb, List.drop_eq_nil_of_le (by omega), List.nil_append]
        exact hx

/-- What is joined is cut as it was. -/
theorem cut_join {B K : Int} {ls : List (List UInt8)} (h : (joinUp B K ls).2 = 0) : cutUp B K (joinUp B K ls).1 = (ls, 0) := by
  unfold joinUp at h ⊢
  by_cases h1 : cutCheck B K = 0
  · rw [if_neg (by simp [h1])] at h ⊢
    by_cases h2 : (ls.length : Int) = blocksOf B K
    · rw [if_neg (by simp [h2])] at h ⊢
      by_cases h3 : ls.all (fun b => decide ((b.length : Int) = K)) = false
      · rw [if_pos h3] at h; cases h
      · rw [if_neg h3] at h ⊢
        by_cases h4 : (ls.flatten.drop B.toNat).all (fun c => decide (c = 0)) = false
        · rw [if_pos h4] at h; cases h
        · rw [if_neg h4]
          obtain ⟨b1, b2, b3, b4, b5⟩ := cutCheck_ok h1
          obtain ⟨b, rfl⟩ := Int.eq_ofNat_of_zero_le (show 0 ≤ B by omega)
          obtain ⟨k, rfl⟩ := Int.eq_ofNat_of_zero_le (show 0 ≤ K by omega)
          obtain ⟨t1, t2, t3, t4⟩ := blocks_tight h1 h2
          have h3' : ∀ x ∈ ls, x.length = k := by
            have := h3
            simp at this
            intro x hx
            have := this x hx
            omega
          have h4' : ∀ x ∈ ls.flatten.drop b, x = 0 := by simpa using h4
          have hfl := length_flatten h3'
          rw [Int.toNat_natCast, cutUp_ok h1 (by rw [List.length_take, hfl]; omega), cut_join_aux (by omega) ls b h3' t2 t1 h4']
    · rw [if_pos h2] at h; cases h
  · rw [if_pos h1] at h; exact absurd h h1
end Go.Proofs.YtbincgbgeccccaaGreatDoor
