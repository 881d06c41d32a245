/- The reference's CheckSymbol. No condition. -/
import Derived.Test.YtkfpgnoodhlfgaaDoorCut
import Derived.Test.YtkfpgnoodhlfgaaDoorSum
import Derived.Test.YtkfpgnoodhlfgaaDoorApp
import Derived.Test.YtkfpgnoodhlfgaaDoorConcat
import Derived.Test.YtkfpgnoodhlfgaaDoorNoteP
import Derived.Test.YtkfpgnoodhlfgaaDoorBox
set_option linter.unusedSimpArgs false
set_option linter.unusedVariables false
namespace Go.Proofs.YtkfpgnoodhlfgaaDoor
open Go.RowKit

theorem blocks_alt {B K : Int} (hB : 1 ≤ B) (hK : 1 ≤ K) : blocksOf B K = B / K + (if 0 < B % K then 1 else 0) := by
  have e : blocksOf B K = (B - 1) / K + 1 := by unfold blocksOf; rw [if_neg (by omega)]
  have h1 := Int.mul_ediv_add_emod B K
  have h2 := Int.emod_nonneg B (show K ≠ 0 by omega)
  have h3 := Int.emod_lt_of_pos B (show 0 < K by omega)
  rw [e]
  generalize B / K = q at *
  generalize B % K = r at *
  split
  · have : B - 1 = (r - 1) + K * q := by omega
    rw [this, Int.add_mul_ediv_left _ _ (by omega), Int.ediv_eq_zero_of_lt (by omega) (by omega)]; omega
  · have : B - 1 = (K - 1) + K * (q - 1) := by rw [Int.mul_sub]; omega
    rw [this, Int.add_mul_ediv_left _ _ (by omega), Int.ediv_eq_zero_of_lt (by omega) (by omega)]; omega

set_option maxHeartbeats 400000 in
theorem refBlocks_any (w : World) (B K : Int) (hB : wfI B) (hK : wfI K) :
    Calls Tryd.prog 66 #[.agg #[.int .i64 B, .int .i64 K]] w fun e w' => e = .returned (.int .i64 (blocksOf B K)) ∧ Fr w w' := by
  obtain ⟨hB1, hB2⟩ := hB.bd
  obtain ⟨hK1, hK2⟩ := hK.bd
  by_cases h1 : B < 1
  · have E : Hid (blocksOf B K = 0) := if_pos (.inr h1)
    clear hB1 hB2 hK1 hK2
    go_enter Tryd.func66, Tryd.ntmps66
    go_wp2
    go_ret
    exact ⟨retI E.out.symm, (by (repeat' (first | exact Below.refl _ _ | refine below_drewN ?_ _ | refine Below.drew ?_ | refine frA ?_ _ | refine Fr.trans ?_ Hf1.out)))⟩
  · by_cases h2 : K < 1
    · have E : Hid (blocksOf B K = 0) := if_pos (.inl h2)
      clear hB1 hB2 hK1 hK2
      go_enter Tryd.func66, Tryd.ntmps66
      go_wp2
      go_ret
      exact ⟨retI E.out.symm, (by (repeat' (first | exact Below.refl _ _ | refine below_drewN ?_ _ | refine Below.drew ?_ | refine frA ?_ _ | refine Fr.trans ?_ Hf1.out)))⟩
    · have E := Lib.hid (blocks_alt (B := B) (K := K) (by omega) (by omega))
      have h3 := Int.ediv_le_self K (show 0 ≤ B by omega)
      have h4 := Int.ediv_nonneg (show 0 ≤ B by omega) (show 0 ≤ K by omega)
      have h5 := Int.emod_lt_of_pos B (show 0 < K by omega)
      have h6 : 0 < B % K → B / K + 1 ≤ 9223372036854775807 := by
        intro h7
        have e1 := Int.mul_ediv_add_emod B K
        have e2 : 2 ≤ K := by omega
        have e3 : 2 * (B / K) ≤ K * (B / K) := Int.mul_le_mul_of_nonneg_right e2 h4
        generalize B / K = q at *
        generalize B % K = r at *
        generalize K * q = z at *
        omega
      by_cases h7 : 0 < B % K
      · have E2 := Lib.hid h7
        have h8 := h6 h7
        clear hB1 hK1 hK2 h5 h6
        go_enter Tryd.func66, Tryd.ntmps66
        go_wp2
        go_ret
        exact ⟨retI (by rw [E.out, if_pos E2.out]), (by (repeat' (first | exact Below.refl _ _ | refine below_drewN ?_ _ | refine Below.drew ?_ | refine frA ?_ _ | refine Fr.trans ?_ Hf1.out)))⟩
      · have E2 := Lib.hid h7
        clear hB1 hK1 hK2 h5 h6
        go_enter Tryd.func66, Tryd.ntmps66
        go_wp2
        go_ret
        exact ⟨retI (by rw [E.out, if_neg (Int.not_lt.2 E2.out)]; omega), (by (repeat' (first | exact Below.refl _ _ | refine below_drewN ?_ _ | refine Below.drew ?_ | refine frA ?_ _ | refine Fr.trans ?_ Hf1.out)))⟩

set_option maxHeartbeats 400000 in
theorem refCheckPlan_any (w : World) (B K : Int) (hB : wfI B) (hK : wfI K) :
    Calls Tryd.prog 39 #[.agg #[.int .i64 B, .int .i64 K]] w fun e w' => e = .returned (.int .i64 (cutCheck B K)) ∧ Fr w w' := by
  by_cases h : B < 1 ∨ 360 < B ∨ K < 1 ∨ 16 < K
  · have E : Hid (cutCheck B K = 3) := if_pos h
    by_cases h1 : 1 ≤ B ∧ B ≤ 360
    · have r1 := inR_t h1
      have r2 : inR K 1 16 = false := inR_f (by omega)
      clear h h1
      go_enter Tryd.func39, Tryd.ntmps39
      go_wp2_with (go_at_call 38; refine (in_any _ _ _ _).mono ?_; rintro e w' ⟨rfl, rfl⟩)
      go_ret
      exact ⟨retI E.out.symm, (by (repeat' (first | exact Below.refl _ _ | refine below_drewN ?_ _ | refine Below.drew ?_ | refine frA ?_ _ | refine Fr.trans ?_ Hf1.out)))⟩
    · have r1 : inR B 1 360 = false := inR_f h1
      clear h h1
      go_enter Tryd.func39, Tryd.ntmps39
      go_wp2_with (go_at_call 38; refine (in_any _ _ _ _).mono ?_; rintro e w' ⟨rfl, rfl⟩)
      go_ret
      exact ⟨retI E.out.symm, (by (repeat' (first | exact Below.refl _ _ | refine below_drewN ?_ _ | refine Below.drew ?_ | refine frA ?_ _ | refine Fr.trans ?_ Hf1.out)))⟩
  · have r1 : inR B 1 360 = true := inR_t (by omega)
    have r2 : inR K 1 16 = true := inR_t (by omega)
    have E : Hid (cutCheck B K = if 24 < blocksOf B K then 2 else 0) := if_neg h
    clear h
    by_cases h5 : 24 < blocksOf B K
    all_goals
      have E2 := Lib.hid h5
      go_enter Tryd.func39, Tryd.ntmps39
      go_wp2_with (first | (go_at_call 38; refine (in_any _ _ _ _).mono ?_; rintro e w' ⟨rfl, rfl⟩) | (go_at_call 66; refine (refBlocks_any _ _ _ hB hK).mono ?_; rintro e w1 ⟨rfl, hf1⟩; have Hf1 := Lib.hid hf1; clear hf1))
      go_ret
      exact ⟨retI (by rw [E.out]; simp [E2.out]), (by (repeat' (first | exact Below.refl _ _ | refine below_drewN ?_ _ | refine Below.drew ?_ | refine frA ?_ _ | refine Fr.trans ?_ Hf1.out)))⟩

/-- A block, as far as it is filled. -/
def fillTo (p : List UInt8) (k : Nat) : List UInt8 := p.take k ++ List.replicate (p.length - k) 0
theorem fillTo_zero (p : List UInt8) : fillTo p 0 = List.replicate p.length 0 := by simp [fillTo]
theorem fillTo_all (p : List UInt8) {k : Nat} (h : p.length ≤ k) : fillTo p k = p := by simp [fillTo, List.take_of_length_le h, Nat.sub_eq_zero_of_le h]
theorem length_fillTo (p : List UInt8) {k : Nat} (h : k ≤ p.length) : (fillTo p k).length = p.length := by simp [fillTo]; omega
theorem fillTo_get (p : List UInt8) {k : Nat} (h : k < p.length) : (fillTo p k)[k]? = some 0 := by
  unfold fillTo
  rw [List.getElem?_append_right (by rw [List.length_take]; omega), List.length_take, Nat.min_eq_left (by omega), Nat.sub_self]
  rw [List.getElem?_replicate, if_pos (by omega)]
theorem fillTo_set (p : List UInt8) {k : Nat} {x : UInt8} (h : p[k]? = some x) : (fillTo p k).set k x = fillTo p (k + 1) := by
  have hk := (List.getElem?_eq_some_iff.1 h).1
  unfold fillTo
  rw [List.set_append_right _ _ (by rw [List.length_take]; omega), List.length_take, Nat.min_eq_left (by omega), Nat.sub_self, take_snoc' h, List.append_assoc]
  obtain ⟨m, hm⟩ : ∃ m, p.length - k = m + 1 := ⟨p.length - k - 1, by omega⟩
  rw [hm, List.replicate_succ, List.set_cons_zero, show p.length - (k + 1) = m from by omega]; rfl
theorem fillTo_skip (p : List UInt8) {k : Nat} (h : p[k]? = some 0) : fillTo p k = fillTo p (k + 1) := by
  rw [← fillTo_set p h]
  apply List.ext_getElem?
  intro i
  by_cases hi : i = k
  · subst hi
    have hk := (List.getElem?_eq_some_iff.1 h).1
    rw [List.getElem?_set_self (by rw [length_fillTo p (by omega)]; exact hk), fillTo_get p hk]
  · rw [List.getElem?_set_ne (fun e => hi e.symm)]

/-- The blocks of a cargo, one by one. -/
theorem cutF_get {K : Nat} (hK : 1 ≤ K) : ∀ f c i, c.length ≤ f → i * K < c.length → (cutF K f c)[i]? = some (padTo K ((c.drop (i * K)).take K))
  | 0, c, i, h, hi => by omega
  | f + 1, c, 0, h, hi => by rw [cutF, if_neg (by omega)]; simp
  | f + 1, c, i + 1, h, hi => by
    rw [Nat.add_mul, Nat.one_mul] at hi
    rw [cutF, if_neg (by omega), List.getElem?_cons_succ, cutF_get hK f (c.drop K) i (by rw [List.length_drop]; omega) (by rw [List.length_drop]; omega), List.drop_drop, Nat.add_mul, Nat.one_mul, Nat.add_comm K]
theorem padTo_get {K k : Nat} {c : List UInt8} (h : k < K) (hc : c.length ≤ K) : (padTo K c)[k]? = some (c.getD k 0) := by
  unfold padTo
  by_cases hk : k < c.length
  · rw [List.getElem?_append_left hk, List.getElem?_eq_getElem hk]; simp [hk]
  · rw [List.getElem?_append_right (by omega), List.getElem?_replicate, if_pos (by omega)]; simp [List.getElem?_eq_none (show c.length ≤ k by omega)]
theorem cut_count {n K : Nat} {c : List UInt8} (hck : cutCheck n K = 0) (hl : c.length = n) {m : Nat} (hm : (m : Int) = blocksOf n K) : (cutF K n c).length = m ∧ ∀ i, i < m → i * K < n := by
  obtain ⟨⟨h1, h2⟩, ⟨h3, h4⟩, _, _, h5⟩ := cutCheck_ok hck
  have hK : 1 ≤ K := by omega
  have e : m = (n - 1) / K + 1 := by
    have : ((n : Int) - 1) / K = (((n - 1) / K : Nat) : Int) := by
      rw [show ((n : Int) - 1) = ((n - 1 : Nat) : Int) from by omega]; simp
    omega
  refine ⟨?_, fun i hi => ?_⟩
  · rw [cutF_length hK n c (by omega), hl, e, show n + K - 1 = (n - 1) + K from by omega, Nat.add_div_right _ (by omega)]
  · have : i ≤ (n - 1) / K := by omega
    have := (Nat.le_div_iff_mul_le (by omega)).1 this
    omega

end Go.Proofs.YtkfpgnoodhlfgaaDoor
namespace Go.Proofs.YtkfpgnoodhlfgaaDoor
open Go.RowKit
attribute [local irreducible] wpList

set_option maxHeartbeats 1000000 in
theorem refHead_any (w : World) (h : Hd) (hw : h.wf) : Calls Tryd.prog 12 #[.agg #[.int .i64 h.frm, .int .i64 h.seq, .int .i64 h.to, .int .i64 h.till, .int .i64 h.bytes, .int .i64 h.block]] w fun e w' => e = .returned (.int .i64 (hdCheck h)) ∧ Fr w w' := by
  obtain ⟨_, _, _, _, wB, wK⟩ := hw
  by_cases hb : h.frm < 0 ∨ 4 ≤ h.frm ∨ h.to < 0 ∨ 4 ≤ h.to ∨ h.seq < 0 ∨ 50 ≤ h.seq ∨ h.till < 1 ∨ 1000000 < h.till
  · have E : Hid (hdCheck h = 3) := if_pos hb
    by_cases h1 : 0 ≤ h.frm ∧ h.frm ≤ 3
    · have r1 := inR_t h1
      by_cases h2 : 0 ≤ h.to ∧ h.to ≤ 3
      · have r2 := inR_t h2
        by_cases h3 : 0 ≤ h.seq ∧ h.seq ≤ 49
        · have r3 := inR_t h3
          have r4 : inR h.till 1 1000000 = false := inR_f (by omega)
          clear hb h1 h2 h3
          go_enter Tryd.func12, Tryd.ntmps12
          go_wp2_with (go_at_call 38; refine (in_any _ _ _ _).mono ?_; rintro e w' ⟨rfl, rfl⟩)
          go_ret
          exact ⟨retI E.out.symm, (by (repeat' (first | exact Below.refl _ _ | refine below_drewN ?_ _ | refine Below.drew ?_ | refine frA ?_ _ | refine Fr.trans ?_ Hf1.out)))⟩
        · have r3 := inR_f h3
          clear hb h1 h2 h3
          go_enter Tryd.func12, Tryd.ntmps12
          go_wp2_with (go_at_call 38; refine (in_any _ _ _ _).mono ?_; rintro e w' ⟨rfl, rfl⟩)
          go_ret
          exact ⟨retI E.out.symm, (by (repeat' (first | exact Below.refl _ _ | refine below_drewN ?_ _ | refine Below.drew ?_ | refine frA ?_ _ | refine Fr.trans ?_ Hf1.out)))⟩
      · have r2 := inR_f h2
        clear hb h1 h2
        go_enter Tryd.func12, Tryd.ntmps12
        go_wp2_with (go_at_call 38; refine (in_any _ _ _ _).mono ?_; rintro e w' ⟨rfl, rfl⟩)
        go_ret
        exact ⟨retI E.out.symm, (by (repeat' (first | exact Below.refl _ _ | refine below_drewN ?_ _ | refine Below.drew ?_ | refine frA ?_ _ | refine Fr.trans ?_ Hf1.out)))⟩
    · have r1 := inR_f h1
      clear hb h1
      go_enter Tryd.func12, Tryd.ntmps12
      go_wp2_with (go_at_call 38; refine (in_any _ _ _ _).mono ?_; rintro e w' ⟨rfl, rfl⟩)
      go_ret
      exact ⟨retI E.out.symm, (by (repeat' (first | exact Below.refl _ _ | refine below_drewN ?_ _ | refine Below.drew ?_ | refine frA ?_ _ | refine Fr.trans ?_ Hf1.out)))⟩
  · have E : Hid (hdCheck h = if h.frm = h.to then 5 else cutCheck h.bytes h.block) := if_neg hb
    have r1 : inR h.frm 0 3 = true := inR_t (by omega)
    have r2 : inR h.to 0 3 = true := inR_t (by omega)
    have r3 : inR h.seq 0 49 = true := inR_t (by omega)
    have r4 : inR h.till 1 1000000 = true := inR_t (by omega)
    clear hb
    by_cases h5 : h.frm = h.to
    · have E2 : Hid (hdCheck h = 5) := by rw [Hid, E.out, if_pos h5]
      have h6 : (h.frm == h.to) = true := by simp [h5]
      clear h5
      go_enter Tryd.func12, Tryd.ntmps12
      go_wp2_with (go_at_call 38; refine (in_any _ _ _ _).mono ?_; rintro e w' ⟨rfl, rfl⟩)
      go_ret
      exact ⟨retI E2.out.symm, (by (repeat' (first | exact Below.refl _ _ | refine below_drewN ?_ _ | refine Below.drew ?_ | refine frA ?_ _ | refine Fr.trans ?_ Hf1.out)))⟩
    · have E2 : Hid (hdCheck h = cutCheck h.bytes h.block) := by rw [Hid, E.out, if_neg h5]
      have h6 : (h.frm == h.to) = false := by simpa using h5
      clear h5
      go_enter Tryd.func12, Tryd.ntmps12
      go_wp2_with (first | (go_at_call 38; refine (in_any _ _ _ _).mono ?_; rintro e w' ⟨rfl, rfl⟩) | (go_at_call 39; refine (refCheckPlan_any _ _ _ wB wK).mono ?_; rintro e w1 ⟨rfl, hf1⟩; have Hf1 := Lib.hid hf1; clear hf1))
      go_ret
      exact ⟨retI E2.out.symm, (by (repeat' (first | exact Below.refl _ _ | refine below_drewN ?_ _ | refine Below.drew ?_ | refine frA ?_ _ | refine Fr.trans ?_ Hf1.out)))⟩
end Go.Proofs.YtkfpgnoodhlfgaaDoor
namespace Go.Proofs.YtkfpgnoodhlfgaaDoor
open Go.RowKit
attribute [local irreducible] wpList

set_option maxHeartbeats 1000000 in
theorem refSymbol_any (w : World) (B K id : Int) (A : Option Addr) (n c : Nat) (wB : wfI B) (wK : wfI K) :
    Calls Tryd.prog 64 #[.agg #[.int .i64 B, .int .i64 K], .agg #[.int .i64 id, .slice A n c]] w fun e w' => e = .returned (.int .i64 (codeCheck B K id n)) ∧ Fr w w' := by
  have CC := Lib.hid (fun W : World => refCheckPlan_any W B K wB wK)
  by_cases h1 : 0 ≤ id ∧ id ≤ 9999
  · have r1 := inR_t h1
    have E : Hid (codeCheck B K id n = if cutCheck B K ≠ 0 then cutCheck B K else if (n : Int) ≠ K then 4 else 0) := by
      unfold codeCheck Hid
      split
      · rfl
      · rw [if_neg (by omega)]
    clear h1
    go_enter Tryd.func64, Tryd.ntmps64
    go_wp2_with (first | (go_at_call 38; refine (in_any _ _ _ _).mono ?_; rintro e w' ⟨rfl, rfl⟩) | (go_at_call 39; refine (CC.out _).mono ?_; rintro e w1 ⟨rfl, hf1⟩; have hbx : w1.heap[w.heap.size]? = some (.cells #[.int .i64 B, .int .i64 K] 23 (0, 0)) := blk_go (heap_old (heap_new rfl)) hf1; have hby : w1.heap[w.heap.size + 1]? = some (.cells #[.int .i64 id, .slice A n c] 29 (0, 0)) := blk_go (heap_new (by simp)) hf1; (obtain ⟨hb0, hb1⟩ := box2_ hbx); (obtain ⟨hs0, hs1⟩ := box2_ hby); have Hf1 := Lib.hid hf1; clear hf1))
    all_goals (try simp only [beq_iff_eq, bne_iff_ne, beq_eq_false_iff_ne, bne_eq_false_iff_eq, ne_eq, Decidable.not_not, Int.natCast_inj, Bool.or_eq_true, Bool.and_eq_true, Bool.or_eq_false_iff, Bool.and_eq_false_iff, Bool.not_eq_true', Bool.not_eq_false', decide_eq_true_eq, decide_eq_false_iff_not, Bool.not_eq_true, Bool.not_eq_false] at *)
    all_goals go_ret
    all_goals exact ⟨retI (by rw [E.out]; (repeat' split) <;> first | rfl | omega), by (repeat' (first | exact Below.refl _ _ | refine below_drewN ?_ _ | refine Below.drew ?_ | refine frA ?_ _ | refine Fr.trans ?_ Hf1.out))⟩
  · have r1 := inR_f h1
    have E : Hid (codeCheck B K id n = if cutCheck B K ≠ 0 then cutCheck B K else 3) := by
      unfold codeCheck Hid
      split
      · rfl
      · rw [if_pos (by omega)]
    clear h1
    go_enter Tryd.func64, Tryd.ntmps64
    go_wp2_with (first | (go_at_call 38; refine (in_any _ _ _ _).mono ?_; rintro e w' ⟨rfl, rfl⟩) | (go_at_call 39; refine (CC.out _).mono ?_; rintro e w1 ⟨rfl, hf1⟩; have hbx : w1.heap[w.heap.size]? = some (.cells #[.int .i64 B, .int .i64 K] 23 (0, 0)) := blk_go (heap_old (heap_new rfl)) hf1; have hby : w1.heap[w.heap.size + 1]? = some (.cells #[.int .i64 id, .slice A n c] 29 (0, 0)) := blk_go (heap_new (by simp)) hf1; (obtain ⟨hb0, hb1⟩ := box2_ hbx); (obtain ⟨hs0, hs1⟩ := box2_ hby); have Hf1 := Lib.hid hf1; clear hf1))
    all_goals (try simp only [beq_iff_eq, bne_iff_ne, beq_eq_false_iff_ne, bne_eq_false_iff_eq, ne_eq, Decidable.not_not, Int.natCast_inj, Bool.or_eq_true, Bool.and_eq_true, Bool.or_eq_false_iff, Bool.and_eq_false_iff, Bool.not_eq_true', Bool.not_eq_false', decide_eq_true_eq, decide_eq_false_iff_not, Bool.not_eq_true, Bool.not_eq_false] at *)
    all_goals go_ret
    all_goals exact ⟨retI (by rw [E.out]; (repeat' split) <;> first | rfl | omega), by (repeat' (first | exact Below.refl _ _ | refine below_drewN ?_ _ | refine Below.drew ?_ | refine frA ?_ _ | refine Fr.trans ?_ Hf1.out))⟩
end Go.Proofs.YtkfpgnoodhlfgaaDoor
