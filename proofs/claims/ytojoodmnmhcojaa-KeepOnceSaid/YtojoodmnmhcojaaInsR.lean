/- slices.Insert at rows. No condition. -/
import Derived.Test.YtojoodmnmhcojaaCloneR
import Derived.Test.YtojoodmnmhcojaaInsP
import Derived.Test.YtojoodmnmhcojaaDel
import Derived.Laws.Externs
set_option linter.unusedSimpArgs false
set_option linter.unusedVariables false
namespace Go.Proofs.Ytojoodmnmhcojaa
open Go.RowKit

section
variable {N : Nat}
set_option maxRecDepth 100000 in
set_option maxHeartbeats 2000000 in
theorem insertRows_room (w : World) (g n cap k vb : Nat) (cs rest vs : List Value) (tv : TypeId) (hg : w.heap[g]? = some (.cells (cs ++ rest).toArray 106 (0, 0))) (hv : w.heap[vb]? = some (.cells vs.toArray tv (0, 0))) (hvb : vb ≠ g)
    (hl : cs.length = n * 2) (hvl : vs.length = 2) (hall : cs.length + rest.length = cap * 2) (hroom : n + 1 ≤ cap) (hcm : cap ≤ maxLen) (hk : k < n) (h1 : ∀ u ∈ cs, u.oneCell' = true) (h2 : ∀ u ∈ vs, u.oneCell' = true) :
    Calls Try.prog 73 #[.slice (some ⟨g, 0, none⟩) n cap, .int .i64 (k : Int), .slice (some ⟨vb, 0, none⟩) 1 1] w fun e w' => e = .returned (.slice (some ⟨g, 0, none⟩) (n + 1) cap) ∧ (∃ rest', ((cs.take (k * 2) ++ vs ++ cs.drop (k * 2)) ++ rest').length = cap * 2 ∧ w'.heap[g]? = some (.cells ((cs.take (k * 2) ++ vs ++ cs.drop (k * 2)) ++ rest').toArray 106 (0, 0))) ∧ w.grownBy w' (some g) := by
  unfold maxLen at hcm
  obtain ⟨i0, hi0, hi1⟩ := Option.map_eq_some_iff.1 infoRow
  simp only [Prod.mk.injEq] at hi1
  have hsz : (Try.prog.info? 106).map (·.size) = some 2 := by rw [hi0]; simp [hi1.2.1]
  have hkn : k * 2 + 2 ≤ n * 2 := by have := Nat.mul_le_mul_right 2 (show k + 1 ≤ n from hk); rw [Nat.add_mul] at this; omega
  have hnc : n * 2 + 2 ≤ cap * 2 := by have := Nat.mul_le_mul_right 2 hroom; rw [Nat.add_mul] at this; omega
  have hov : ∀ la ca lb cb, (callFunc 81 #[.slice (some ⟨vb, 0, none⟩) la ca, .slice (some ⟨g, (k + 1) * 2, none⟩) lb cb]).run Try.prog w = .ok (.value (.bool false)) w := fun la ca lb cb => by
    rw [run_callFunc_extern Try.func81 (by kernel_rfl) (by kernel_rfl) (by kernel_rfl) (e := Extern.SlicesOverlaps.overlaps #[95, 95] #[4]) (by kernel_rfl),
      Lib.run_overlaps_apart w 95 4 106 Try.underlying95 2 (fun w => by kernel_rfl) ⟨vb, 0, none⟩ ⟨g, (k + 1) * 2, none⟩ la ca lb cb hvb _ _ _ _ (shape_cells hv) (shape_cells hg) (by rw [List.size_toArray, List.length_append]; omega) (blk_free hv) (blk_free hv)]
    rfl
  obtain ⟨cur1, hcur1⟩ : ∃ cur1, cur1 = (cs ++ rest).take ((k + 1) * 2) ++ cs.drop (k * 2) ++ (cs ++ rest).drop ((k + 1) * 2 + (cs.drop (k * 2)).length) := ⟨_, rfl⟩
  have hdl : (cs.drop (k * 2)).length = (n - k) * 2 := by rw [List.length_drop, hl, ← Nat.sub_mul]
  have hdk : (k + 1) * 2 = k * 2 + 2 := by rw [Nat.add_mul, Nat.one_mul]
  have hcl1 : cur1.length = cap * 2 := by
    rw [hcur1]; simp only [List.length_append, List.length_take, List.length_drop]; omega
  obtain ⟨W1, hW1⟩ : ∃ W1, W1 = w.drew.setRow g cur1.toArray := ⟨_, rfl⟩
  have hcp1 : Hid (∀ ty dc sc, (Builtin.copy_ #[95, 95] ty #[.slice (some ⟨g, (k + 1) * 2, none⟩) (n + 1 - (k + 1)) dc, .slice (some ⟨g, k * 2, none⟩) (n + 1 - k) sc]).run Try.prog w.drew = .ok (goInt (Nat.min (n + 1 - k) (n + 1 - (k + 1)))) W1) := fun ty dc sc => by
    rw [hW1, hcur1]
    refine run_copyN w.drew _ _ ty 106 2 g ((k + 1) * 2) (n + 1 - (k + 1)) dc ⟨g, k * 2, none⟩ (n + 1 - k) sc (cs ++ rest) 106 (cs.drop (k * 2)) Try.underlying95 hsz hg ?_ (fun j v hj => ?_) (by rw [List.length_append]; omega) (fun u hu => h1 u (List.mem_of_mem_drop hu))
    · rw [hdl]; congr 1; simp only [Nat.min_def]; split <;> omega
    · rw [Addr.add_lit]
      rw [List.getElem?_drop] at hj
      exact cells_at (w := w.drew) hg hj
  have hg1 : W1.heap[g]? = some (.cells cur1.toArray 106 (0, 0)) := by rw [hW1]; exact setRow_heap w.drew g _ _ 106 _ hg
  have hv1 : W1.heap[vb]? = some (.cells vs.toArray tv (0, 0)) := by rw [hW1, setRow_other w.drew g vb _ hvb]; exact hv
  have hG1 : w.grownBy W1 (some g) := by rw [hW1]; exact grown_setRow (w := w) (wr := w.drew) ⟨rfl, rfl, rfl, Nat.le_refl _, fun _ _ _ => rfl⟩ _
  obtain ⟨W2, hW2⟩ : ∃ W2, W2 = W1.setRow g (cur1.take (k * 2) ++ vs ++ cur1.drop (k * 2 + vs.length)).toArray := ⟨_, rfl⟩
  have hcp2 : Hid (∀ ty dc, (Builtin.copy_ #[95, 95] ty #[.slice (some ⟨g, k * 2, none⟩) (n + 1 - k) dc, .slice (some ⟨vb, 0, none⟩) 1 1]).run Try.prog W1 = .ok (goInt (Nat.min 1 (n + 1 - k))) W2) := fun ty dc => by
    rw [hW2]
    refine run_copyN W1 _ _ ty 106 2 g (k * 2) (n + 1 - k) dc ⟨vb, 0, none⟩ 1 1 cur1 106 vs Try.underlying95 hsz hg1 ?_ (fun j v hj => ?_) (by rw [hcl1, hvl]; omega) h2
    · rw [hvl, show Nat.min 1 (n + 1 - k) = 1 by simp only [Nat.min_def]; split <;> omega, Nat.one_mul]
    · rw [zero_add_addr, cell_of_heap hv1, List.getElem?_toArray]; exact hj
  have R : Hid (∃ rest', ((cs.take (k * 2) ++ vs ++ cs.drop (k * 2)) ++ rest').length = cap * 2 ∧ W2.heap[g]? = some (.cells ((cs.take (k * 2) ++ vs ++ cs.drop (k * 2)) ++ rest').toArray 106 (0, 0))) := by
    have htl : (cs.take (k * 2)).length = k * 2 := by rw [List.length_take]; omega
    refine ⟨(cs ++ rest).drop ((k + 1) * 2 + (cs.drop (k * 2)).length), by simp only [List.length_append, List.length_take, List.length_drop]; omega, ?_⟩
    rw [hW2, setRow_heap W1 g _ _ 106 _ hg1]
    have e1 : cur1.take (k * 2) = cs.take (k * 2) := by
      rw [hcur1, List.append_assoc, List.take_append_of_le_length (by rw [List.length_take, List.length_append]; omega), List.take_take, Nat.min_eq_left (by omega), List.take_append_of_le_length (by omega)]
    have e2 : cur1.drop (k * 2 + vs.length) = cs.drop (k * 2) ++ (cs ++ rest).drop ((k + 1) * 2 + (cs.drop (k * 2)).length) := by
      rw [hcur1, hvl, ← hdk, List.append_assoc, List.drop_left' (by rw [List.length_take, List.length_append]; omega)]
    rw [e1, e2]
    simp only [List.append_assoc]
  have R2 : Hid (w.grownBy W2 (some g)) := by rw [hW2]; exact grown_setRow hG1 _
  have q1 : ¬ ((k : Int) = (n : Int)) := by omega
  have q2 : ((k : Int) == (n : Int)) = false := by simp; omega
  have q3 : ¬ ((n : Int) + 1 > (cap : Int)) := by omega
  have q4 : ¬ cap = k + 1 := by omega
  have q5 : ¬ cap = k := by omega
  have q6 : (k : Int) ≤ (n : Int) := by omega
  have q7 : n + 1 ≤ cap := hroom
  have q8 : (k : Int) + 1 ≤ (n : Int) + 1 := by omega
  have q9 : (0 : Int) ≤ (k : Int) + 1 := by omega
  have q10 : (k : Int) ≤ (n : Int) + 1 := by omega
  have HW1 := Lib.hid hW1
  clear hg hv hl hvl hall h1 h2 hi0 hi1 hsz hcur1 hdl hdk hcl1 hg1 hv1 hG1 hW1 hW2 hkn hnc hvb
  have HOV := Lib.hid hov
  clear hov
  have hov := HOV.out
  try simp only [Nat.mul_one] at hov
  have hcpA := hcp1.out
  have hcpB := hcp2.out
  try simp only [Nat.mul_one] at hcpA hcpB
  have HA := Lib.hid hcpA
  have HB := Lib.hid hcpB
  clear hcpA hcpB
  have qw : IntKind.i64.wrap ((k : Int) + 1) = (k : Int) + 1 := by rw [IntKind.wrap_i64]; omega
  have qt : ((k : Int) + 1).toNat = k + 1 := by omega
  go_enter Try.func73, Try.ntmps73
  go_wp2_with (simp only [hov])
  go_region_law (refine step_copy_eq rfl (.tmp 73) (.tmp 76) 95 95 rfl _ _ (by simp [Act.eval, Act.put]) (by simp [Act.eval, Act.put]) (HA.out _ (cap - (k + 1)) (cap - k)) ?_)
  go_wp2_with (refine wpList_copy_eq _ rfl (.tmp 80) (.tmp 81) 95 95 rfl _ _ rfl rfl (HB.out _ (cap - k)) ?_)
  go_ret
  exact ⟨rfl, R.out, R2.out⟩
set_option maxRecDepth 100000 in
set_option maxHeartbeats 2000000 in
theorem insertRows_grow (w : World) (g n cap k vb : Nat) (cs rest vs : List Value) (tv : TypeId) (hg : w.heap[g]? = some (.cells (cs ++ rest).toArray 106 (0, 0))) (hv : w.heap[vb]? = some (.cells vs.toArray tv (0, 0)))
    (hl : cs.length = n * 2) (hvl : vs.length = 2) (hnc : n ≤ cap) (hroom : cap < n + 1) (hlim : (n + 1) * 48 ≤ lim) (hk : k < n) (h1 : ∀ u ∈ cs, u.oneCell' = true) (h2 : ∀ u ∈ vs, u.oneCell' = true) :
    Calls Try.prog 73 #[.slice (some ⟨g, 0, none⟩) n cap, .int .i64 (k : Int), .slice (some ⟨vb, 0, none⟩) 1 1] w fun e w' => ∃ cap' rest', e = .returned (.slice (some ⟨w.heap.size, 0, none⟩) (n + 1) cap') ∧ (n + 1 ≤ cap' ∧ cap' ≤ maxLen) ∧ ((cs.take (k * 2) ++ vs ++ cs.drop (k * 2)) ++ rest').length = cap' * 2 ∧ w'.heap[w.heap.size]? = some (.cells ((cs.take (k * 2) ++ vs ++ cs.drop (k * 2)) ++ rest').toArray 106 (0, 0)) ∧ Fr w w' := by
  obtain ⟨i0, hi0, hi1⟩ := Option.map_eq_some_iff.1 infoRow
  simp only [Prod.mk.injEq] at hi1
  obtain ⟨hz0, hz1, hz2⟩ := hi1
  have hlim2 := hlim
  unfold lim at hlim2
  have hsz : (Try.prog.info? 106).map (·.size) = some 2 := by rw [hi0]; simp [hz1]
  have hgl : g < w.heap.size := (Array.getElem?_eq_some_iff.1 hg).1
  have hvl2 : vb < w.heap.size := (Array.getElem?_eq_some_iff.1 hv).1
  have hkn : k * 2 + 2 ≤ n * 2 := by have := Nat.mul_le_mul_right 2 (show k + 1 ≤ n from hk); rw [Nat.add_mul] at this; omega
  have hcap : n = cap := by omega
  obtain ⟨G, hG⟩ : ∃ G, G = grownCap w (k + (n + 1 - k)) cap 106 := ⟨_, rfl⟩
  have hge := grownCap_ge w (k + (n + 1 - k)) cap 106
  have hle := grownCap_le_maxLen w (k + (n + 1 - k)) cap 106 (by unfold maxLen; omega)
  rw [← hG] at hge hle
  unfold maxLen at hle
  obtain ⟨olds, hol⟩ : ∃ olds, olds = cs.take (k * 2) := ⟨_, rfl⟩
  have holl : olds.length = k * 2 := by rw [hol, List.length_take]; omega
  obtain ⟨cur, hcur⟩ : ∃ cur : List Value, cur = (olds.toArray ++ Builtin.zeroCells (.agg #[.slice none 0 0, .slice none 0 0] : Value).cells (n + 1 - k) ++ Builtin.zeroCells (.agg #[.slice none 0 0, .slice none 0 0] : Value).cells (G - (k + (n + 1 - k)))).toList := ⟨_, rfl⟩
  have hcl : cur.length = G * 2 := by
    rw [hcur, Array.length_toList, Array.size_append, Array.size_append, size_zeroCells, size_zeroCells, List.size_toArray, holl]
    show k * 2 + (n + 1 - k) * 2 + (G - (k + (n + 1 - k))) * 2 = G * 2
    rw [← Nat.add_mul, ← Nat.add_mul]; congr 1; omega
  have hct : cur.take (k * 2) = olds := by
    rw [hcur, Array.toList_append, Array.toList_append, List.append_assoc]
    exact List.take_left' holl
  have hfirst : (Builtin.firstCells i0.size k (.slice (some ⟨g, 0, none⟩) k cap)).run Try.prog w.drew = .ok olds.toArray w.drew := by
    have := run_loadCells_list (P := Try.prog) w.drew ⟨g, 0, none⟩ olds fun j v hj => by
      rw [zero_add_addr]
      refine cells_at (w := w.drew) hg ?_
      rw [hol, List.getElem?_take] at hj
      split at hj
      · exact hj
      · cases hj
    unfold Builtin.firstCells
    rw [hz1, ← holl]
    exact this
  obtain ⟨W1, hW1⟩ : ∃ W1, W1 = w.drew.alloc (.cells cur.toArray 106) := ⟨_, rfl⟩
  have hn1 : k + (n + 1 - k) = n + 1 := by omega
  have hrz : Hid (∀ ty, (Builtin.append_ #[95, 3] ty #[.slice (some ⟨g, 0, none⟩) k cap, .int .i64 ((n : Int) + 1 - (k : Int))]).run Try.prog w = .ok (.slice (some ⟨w.heap.size, 0, none⟩) (n + 1) G) W1) := fun ty => by
    have h := Lib.run_append_grow_zeros (P := Try.prog) w 95 3 ty 106 i0 (.agg #[.slice none 0 0, .slice none 0 0]) .i64 .i64 Try.underlying95 Try.underlying3 hi0 hz0 (some ⟨g, 0, none⟩) k cap olds hfirst (n + 1 - k) (by omega) (by rw [hz1]; decide) (by omega) (by omega)
      (by rw [hz2]; exact Nat.le_trans (Nat.mul_le_mul_right _ (by omega : n + 1 - k ≤ n + 1)) (by unfold lim at hlim; omega)) (by rw [hz2, hn1]; exact growslice_fits (by omega) (by unfold lim at hlim; exact hlim))
    have ec : ((n + 1 - k : Nat) : Int) = (n : Int) + 1 - (k : Int) := by omega
    rw [ec] at h
    rw [h, hW1, hcur, hG, hn1, Array.toArray_toList]
  have hg1 : W1.heap[w.heap.size]? = some (.cells cur.toArray 106 (0, 0)) := by rw [hW1]; exact heap_alloc_new w.drew _
  have hv1 : W1.heap[vb]? = some (.cells vs.toArray tv (0, 0)) := by rw [hW1]; exact heap_old (w := w.drew) hv
  have hgo1 : W1.heap[g]? = some (.cells (cs ++ rest).toArray 106 (0, 0)) := by rw [hW1]; exact heap_old (w := w.drew) hg
  have hF1 : Fr w W1 := by rw [hW1]; exact (Below.refl _ _).drew.alloc (Nat.le_refl _) _
  obtain ⟨cur1, hcur1⟩ : ∃ cur1, cur1 = cur.take (k * 2) ++ vs ++ cur.drop (k * 2 + vs.length) := ⟨_, rfl⟩
  have hcG : k * 2 + 2 + (n - k) * 2 ≤ G * 2 := by
    have : k * 2 + 2 + (n - k) * 2 = (n + 1) * 2 := by
      rw [Nat.sub_mul, Nat.add_mul]; omega
    rw [this]; exact Nat.mul_le_mul_right _ (by omega)
  have hcl1 : cur1.length = G * 2 := by rw [hcur1]; simp only [List.length_append, List.length_take, List.length_drop]; omega
  obtain ⟨W2, hW2⟩ : ∃ W2, W2 = W1.setRow w.heap.size cur1.toArray := ⟨_, rfl⟩
  have hcp1 : Hid (∀ ty dc, (Builtin.copy_ #[95, 95] ty #[.slice (some ⟨w.heap.size, k * 2, none⟩) (n + 1 - k) dc, .slice (some ⟨vb, 0, none⟩) 1 1]).run Try.prog W1 = .ok (goInt (Nat.min 1 (n + 1 - k))) W2) := fun ty dc => by
    rw [hW2, hcur1]
    refine run_copyN W1 _ _ ty 106 2 w.heap.size (k * 2) (n + 1 - k) dc ⟨vb, 0, none⟩ 1 1 cur 106 vs Try.underlying95 hsz hg1 ?_ (fun j v hj => ?_) (by rw [hcl, hvl]; omega) h2
    · rw [hvl, show Nat.min 1 (n + 1 - k) = 1 by simp only [Nat.min_def]; split <;> omega, Nat.one_mul]
    · rw [zero_add_addr, cell_of_heap hv1, List.getElem?_toArray]; exact hj
  have hg2 : W2.heap[w.heap.size]? = some (.cells cur1.toArray 106 (0, 0)) := by rw [hW2]; exact setRow_heap W1 _ _ _ 106 _ hg1
  have hgo2 : W2.heap[g]? = some (.cells (cs ++ rest).toArray 106 (0, 0)) := by rw [hW2, setRow_other W1 _ _ _ (by omega)]; exact hgo1
  obtain ⟨W3, hW3⟩ : ∃ W3, W3 = W2.drew.setRow w.heap.size (cur1.take ((k + 1) * 2) ++ cs.drop (k * 2) ++ cur1.drop ((k + 1) * 2 + (cs.drop (k * 2)).length)).toArray := ⟨_, rfl⟩
  have hdl : (cs.drop (k * 2)).length = (n - k) * 2 := by rw [List.length_drop, hl, ← Nat.sub_mul]
  have hdk : (k + 1) * 2 = k * 2 + 2 := by rw [Nat.add_mul, Nat.one_mul]
  have hcp2 : Hid (∀ ty dc sc, (Builtin.copy_ #[95, 95] ty #[.slice (some ⟨w.heap.size, (k + 1) * 2, none⟩) (n + 1 - (k + 1)) dc, .slice (some ⟨g, k * 2, none⟩) (n - k) sc]).run Try.prog W2.drew = .ok (goInt (Nat.min (n - k) (n + 1 - (k + 1)))) W3) := fun ty dc sc => by
    rw [hW3]
    refine run_copyN W2.drew _ _ ty 106 2 w.heap.size ((k + 1) * 2) (n + 1 - (k + 1)) dc ⟨g, k * 2, none⟩ (n - k) sc cur1 106 (cs.drop (k * 2)) Try.underlying95 hsz hg2 ?_ (fun j v hj => ?_) (by rw [hcl1, hdl]; omega) (fun u hu => h1 u (List.mem_of_mem_drop hu))
    · rw [hdl]; congr 1; simp only [Nat.min_def]; split <;> omega
    · rw [Addr.add_lit]
      rw [List.getElem?_drop] at hj
      exact cells_at (w := W2.drew) hgo2 hj
  have R : Hid (∃ rest', ((cs.take (k * 2) ++ vs ++ cs.drop (k * 2)) ++ rest').length = G * 2 ∧ W3.heap[w.heap.size]? = some (.cells ((cs.take (k * 2) ++ vs ++ cs.drop (k * 2)) ++ rest').toArray 106 (0, 0))) := by
    refine ⟨cur1.drop ((k + 1) * 2 + (cs.drop (k * 2)).length), by simp only [List.length_append, List.length_take, List.length_drop]; omega, ?_⟩
    rw [hW3, setRow_heap W2.drew w.heap.size _ _ 106 _ hg2]
    have e1 : cur1.take ((k + 1) * 2) = cs.take (k * 2) ++ vs := by
      rw [hcur1, hct, hol]
      exact List.take_left' (by rw [List.length_append, List.length_take, hvl]; omega)
    rw [e1]
  have R2 : Hid (Fr w W3) := by
    rw [hW3, hW2]
    exact below_setRow (below_setRow hF1 (Nat.le_refl _) _).drew (Nat.le_refl _) _
  have RG : Hid (n + 1 ≤ G ∧ G ≤ maxLen) := ⟨by omega, by unfold maxLen; omega⟩
  have q1 : ¬ ((k : Int) = (n : Int)) := by omega
  have q2 : ((k : Int) == (n : Int)) = false := by simp; omega
  have q3 : (n : Int) + 1 > (cap : Int) := by omega
  have q4 : ¬ G = k + 1 := by omega
  have q5 : ¬ G = k := by omega
  have q55 : ¬ cap = k := by omega
  have q6 : (k : Int) ≤ (n : Int) := by omega
  have q8 : (k : Int) + 1 ≤ (n : Int) + 1 := by omega
  have q9 : (0 : Int) ≤ (k : Int) + 1 := by omega
  have q10 : (k : Int) ≤ (n : Int) + 1 := by omega
  have q11 : k ≤ cap := by omega
  have q12 : (k : Int) ≤ (cap : Int) := by omega
  have hnz : n ≤ 140737488355328 := by omega
  clear hg hv hl hvl h1 h2 hi0 hz0 hz1 hz2 hsz hcur hcur1 hdl hdk hcl hcl1 hg1 hg2 hgo1 hgo2 hv1 hW1 hW2 hW3 hkn hcG hct hfirst hF1 hG hol holl hcap hlim hlim2 hn1 hge
  have hcpA := hcp1.out
  have hcpB := hcp2.out
  try simp only [Nat.mul_one] at hcpA hcpB
  have HA := Lib.hid hcpA
  have HB := Lib.hid hcpB
  clear hcpA hcpB
  have qw : IntKind.i64.wrap ((k : Int) + 1) = (k : Int) + 1 := by rw [IntKind.wrap_i64]; omega
  have qt : ((k : Int) + 1).toNat = k + 1 := by omega
  go_enter Try.func73, Try.ntmps73
  go_wp2_with (first | (refine wpList_copy_eq _ rfl (.tmp 43) (.tmp 44) 95 95 rfl _ _ rfl rfl (HA.out _ (G - k)) ?_) | (at_builtin; refine Lib.wpList_append_run _ rfl _ _ _ _ rfl _ _ rfl rfl _ _ (hrz.out _) ?_))
  go_region_law (refine step_copy_eq rfl (.tmp 50) (.tmp 53) 95 95 rfl _ _ (by simp [Act.eval, Act.put]) (by simp [Act.eval, Act.put]) (HB.out _ (G - (k + 1)) (cap - k)) ?_)
  go_wp2
  go_ret
  obtain ⟨rest', r1, r2⟩ := R.out
  exact ⟨G, rest', rfl, RG.out, r1, r2, R2.out⟩
set_option maxHeartbeats 1000000 in
theorem insertRows_end (w : World) (base vb : Nat) (A : Option Addr) (n c : Nat) (xs : List (Rw)) (x : Rw) (vs : List Value) (tv : TypeId) (ho : Own 2 (eHi N eRw) w base 106 (.slice A n c) xs) (hn : n = xs.length) (hv : w.heap[vb]? = some (.cells vs.toArray tv (0, 0)))
    (hvl : vs.length = 2) (h2 : ∀ u ∈ vs, u.oneCell' = true) (hx : (eHi N eRw) w (fun b => b < w.heap.size ∧ (Value.slice A n c).ownBlock ≠ some b) (fun j => vs[j]?) x) (hlim : (xs.length + 1) * 48 ≤ lim) (hb : base ≤ w.heap.size) (hnc : n ≤ c) (hcm : c ≤ maxLen) :
    Calls Try.prog 73 #[.slice A n c, .int .i64 (n : Int), .slice (some ⟨vb, 0, none⟩) 1 1] w fun e w' => ∃ v', e = .returned v' ∧ Own 2 (eHi N eRw) w' base 106 v' (xs ++ [x]) ∧ w.grownBy w' (Value.slice A n c).ownBlock := by
  have q1 : ((n : Int) == (n : Int)) = true := by simp
  have hcm2 := hcm
  unfold maxLen at hcm2
  have hlim2 := hlim
  unfold lim at hlim2
  have hml : xs.length + 1 ≤ maxLen := by unfold maxLen; omega
  have hys : Hid (∀ (i : Nat) (y : Rw), [x][i]? = some y → (eHi N eRw) w (fun b => b < w.heap.size ∧ (Value.slice A n c).ownBlock ≠ some b) (fun j => vs[i * 2 + j]?) y) := fun i y hy => by
    cases i with
    | zero => obtain rfl : x = y := by simpa using hy
              simpa using hx
    | succ i => simp at hy
  have hcell : Hid (∀ j u, vs[j]? = some u → w.cell? ((⟨vb, 0, none⟩ : Addr).add j) = some u) := fun j u hu => by rw [zero_add_addr, cell_of_heap hv, List.getElem?_toArray]; exact hu
  have hvl2 : Hid (vs.length = 1 * 2) := by rw [Hid, hvl]
  clear hx hv hvl hlim2
  (have H2 := Lib.hid h2; clear h2; have Ho := Lib.hid ho; clear ho; have Hn := Lib.hid hn; clear hn; have Hlim := Lib.hid hlim; clear hlim)
  by_cases hcn : c = n
  · subst hcn
    go_enter Try.func73, Try.ntmps73
    go_wp2_with (at_builtin; refine wpList_apps _ rfl _ _ 95 rfl base 106 _ _ _ Try.underlying95 infoRow rfl (by decide) (sRw.hi N) _ xs rfl Ho.out ⟨vb, 0, none⟩ 1 1 vs rfl hvl2.out hcell.out H2.out [x] rfl hys.out hml Hlim.out hb ?_)
    intro v' w1 hown hg hge
    have HO := Lib.hid hown
    have HG := Lib.hid hg
    clear hown hg hge
    go_wp2
    go_ret
    exact ⟨v', rfl, HO.out, HG.out⟩
  · go_enter Try.func73, Try.ntmps73
    go_wp2_with (at_builtin; refine wpList_apps _ rfl _ _ 95 rfl base 106 _ _ _ Try.underlying95 infoRow rfl (by decide) (sRw.hi N) _ xs rfl Ho.out ⟨vb, 0, none⟩ 1 1 vs rfl hvl2.out hcell.out H2.out [x] rfl hys.out hml Hlim.out hb ?_)
    intro v' w1 hown hg hge
    have HO := Lib.hid hown
    have HG := Lib.hid hg
    clear hown hg hge
    go_wp2
    go_ret
    exact ⟨v', rfl, HO.out, HG.out⟩

theorem insertRows_own (w : World) (base k vb : Nat) (v : Value) (xs : List (Rw)) (x : Rw) (vs : List Value) (tv : TypeId) (ho : Own 2 (eHi N eRw) w base 106 v xs) (hk : k ≤ xs.length) (hv : w.heap[vb]? = some (.cells vs.toArray tv (0, 0))) (hvb : v.ownBlock ≠ some vb)
    (hvl : vs.length = 2) (h2 : ∀ u ∈ vs, u.oneCell' = true) (hx : (eHi N eRw) w (fun b => b < w.heap.size ∧ v.ownBlock ≠ some b) (fun j => vs[j]?) x) (hlim : (xs.length + 1) * 48 ≤ lim) (hb : base ≤ w.heap.size) :
    Calls Try.prog 73 #[v, .int .i64 (k : Int), .slice (some ⟨vb, 0, none⟩) 1 1] w fun e w' => ∃ v', e = .returned v' ∧ Own 2 (eHi N eRw) w' base 106 v' (xs.take k ++ x :: xs.drop k) ∧ w.grownBy w' v.ownBlock := by
  by_cases hkn : k = xs.length
  · obtain ⟨A, c, rfl, ⟨hc1, hc2⟩, _⟩ := ho.slC (sRw.hi N) (by decide)
    rw [hkn]
    refine (insertRows_end w base vb A xs.length c xs x vs tv ho rfl hv hvl h2 hx hlim hb hc1 hc2).mono fun e w' ⟨v', h1, h2, h3⟩ => ⟨v', h1, ?_, h3⟩
    rw [List.take_length, List.drop_length]; exact h2
  · have hlt : k < xs.length := by omega
    obtain ⟨g, cap, cs, rest, rfl, hbg, hg, hnc, hcm, hl, hall, h1, hr⟩ := own_row (fRw.hi N) (by decide) ho (by omega)
    have hne : vb ≠ g := fun e => hvb (by rw [e]; rfl)
    have hins : (xs.take k ++ x :: xs.drop k).length = xs.length + 1 := by simp only [List.length_append, List.length_take, List.length_cons, List.length_drop]; omega
    have hcl : (cs.take (k * 2) ++ vs ++ cs.drop (k * 2)).length = (xs.take k ++ x :: xs.drop k).length * 2 := by
      have : k * 2 ≤ xs.length * 2 := Nat.mul_le_mul_right _ (by omega)
      rw [hins, Nat.add_mul, Nat.one_mul]
      simp only [List.length_append, List.length_take, List.length_drop]; omega
    have hrd : ∀ (S : Nat → Prop) (W : World) , (∀ b, b < w.heap.size ∧ b ≠ g → S b) → (∀ p : Addr, p.block < w.heap.size → p.block ≠ g → W.cell? p = w.cell? p) → ∀ i y, (xs.take k ++ x :: xs.drop k)[i]? = some y → (eHi N eRw) W S (fun j => (cs.take (k * 2) ++ vs ++ cs.drop (k * 2))[i * 2 + j]?) y := by
      intro S W hS hW i y hy
      rcases ins_list hk hy with ⟨e1, e2⟩ | ⟨e1, e2⟩
      · subst e1 e2
        refine ((sRw.hi N)).mono (fun j u hj hu => ins_get hl hvl hk hj hy (by rw [if_pos rfl]; exact hu)) (((sRw.hi N)).more (S := fun b => b < w.heap.size ∧ (Value.slice (some ⟨g, 0, none⟩) xs.length cap).ownBlock ≠ some b) (fun b hb => hS b ⟨hb.1, fun e => hb.2 (by rw [e]; rfl)⟩) (((sRw.hi N)).keep (fun p hp => hW p hp.1 fun e => hp.2 (by rw [e]; rfl)) hx))
      · refine ((sRw.hi N)).mono (fun j u hj hu => ins_get hl hvl hk hj hy (by rw [if_neg e1]; exact hu)) (((sRw.hi N)).more hS (((sRw.hi N)).keep (fun p hp => hW p hp.1 hp.2) (hr _ y e2)))
    by_cases hroom : xs.length + 1 ≤ cap
    · refine (insertRows_room w g xs.length cap k vb cs rest vs tv hg hv hne hl hvl hall hroom hcm hlt h1 h2).mono ?_
      rintro e w' ⟨rfl, ⟨rest', hrl, hg'⟩, hG⟩
      refine ⟨_, rfl, ?_, hG⟩
      rw [← hins]
      exact row_own (w := w) (sRw.hi N) hbg hg' hG (by rw [hins]; exact hroom) hcm hcl (by rw [← List.length_append]; exact hrl) fun i y hy => hrd _ w (fun b hb => hb) (fun _ _ _ => rfl) i y hy
    · refine (insertRows_grow w g xs.length cap k vb cs rest vs tv hg hv hl hvl hnc (by omega) hlim hlt h1 h2).mono ?_
      rintro e w' ⟨cap', rest', rfl, hcap', hrl, hg', hF⟩
      refine ⟨_, rfl, ?_, ⟨hF.os, hF.tape, hF.output, hF.size, fun b hb _ => hF.block b hb⟩⟩
      rw [← hins]
      exact row_own (w := w') (sRw.hi N) hb hg' ⟨rfl, rfl, rfl, Nat.le_refl _, fun _ _ _ => rfl⟩ (by rw [hins]; exact hcap'.1) hcap'.2 hcl (by rw [← List.length_append]; exact hrl) fun i y hy => hrd _ w' (fun b hb => ⟨Nat.lt_of_lt_of_le hb.1 hF.size, by omega⟩) (fun p hp _ => hF.cell hp) i y hy
end
end Go.Proofs.Ytojoodmnmhcojaa
