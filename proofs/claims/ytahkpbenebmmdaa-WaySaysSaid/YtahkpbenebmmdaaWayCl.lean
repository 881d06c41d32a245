/- Mail cloned; one taken out. No condition. -/
import Derived.Test.YtahkpbenebmmdaaClone
import Derived.Test.YtahkpbenebmmdaaDel
import Derived.Test.YtahkpbenebmmdaaWayP
set_option linter.unusedSimpArgs false
set_option linter.unusedVariables false
namespace Go.Proofs.Ytahkpbenebmmdaa
open Go.RowKit

theorem infoMail : (Try.prog.info? 73).map (fun i => (i.zero, i.size, i.bytes)) = some (some (.agg #[.int .i64 0, .int .i64 0, .int .i64 0, .int .i64 0, .int .i64 0, .int .i64 0, .int .i64 0, .int .i64 0, .int .i64 0, .int .i64 0, .slice none 0 0, .int .i64 0, .int .i64 0]), 13, 120) := by kernel_rfl

set_option maxHeartbeats 400000 in
theorem cloneMails_any (w : World) (A : Option Addr) (n c : Nat) (l : List Ml) (h : Sl 13 eMl w (LT w.heap.size) A n l) (hm : n * 120 ≤ lim) :
    Calls Try.prog 53 #[.slice A n c] w fun e w' => ∃ v, e = .returned v ∧ Own 13 eMl w' w.heap.size 73 v l ∧ Fr w w' := by
  have hm2 := hm
  unfold lim at hm2
  cases A with
  | none =>
    have hn : n = 0 := by
      rcases Nat.eq_zero_or_pos n with h0 | h0
      · exact h0
      · obtain ⟨ad, e, _⟩ := h.2 h0; cases e
    have hl : l = [] := List.eq_nil_of_length_eq_zero (by rw [h.1]; exact hn)
    subst hl
    subst hn
    have hnil := fun (W : World) => Lib.run_eql_slice_nil (P := Try.prog) W 67 _ Option.none 0 c 0 0 Try.underlying67
    clear h
    go_enter Try.func53, Try.ntmps53
    go_wp2_with fail
    go_ret
    exact ⟨_, rfl, Own.nil, Below.refl _ _⟩
  | some ad =>
    have hnil := fun (W : World) => Lib.run_eql_slice_nil (P := Try.prog) W 67 _ (some ad) n c 0 0 Try.underlying67
    simp only [Option.isNone_some] at hnil
    obtain ⟨cs, hcl, hcc, hc1, hcr⟩ : ∃ cs : List Value, cs.length = n * 13 ∧ (∀ j u, cs[j]? = some u → w.cell? (ad.add j) = some u ∧ ad.block < w.heap.size) ∧ (∀ u ∈ cs, u.oneCell' = true) ∧ ∀ i x, l[i]? = some x → eMl w (LT w.heap.size) (fun j => cs[i * 13 + j]?) x := by
      rcases Nat.eq_zero_or_pos n with h0 | h0
      · have hl : l = [] := List.eq_nil_of_length_eq_zero (by rw [h.1]; exact h0)
        exact ⟨[], by simp [h0], fun j u hu => by simp at hu, fun u hu => by simp at hu, fun i x hx => by simp [hl] at hx⟩
      · obtain ⟨ad', e, hE⟩ := h.els h0
        injection e with e
        subst e
        obtain ⟨cs, k1, k2, k3, k4⟩ := hE.cells fMl sMl (by decide)
        exact ⟨cs, k1, fun j u hu => ⟨k2 j u hu, hE.2.1⟩, k3, k4⟩
    have hll := h.1
    (have H := Lib.hid h; clear h; have Hcl := Lib.hid hcl; clear hcl; have Hcc := Lib.hid hcc; clear hcc; have Hc1 := Lib.hid hc1; clear hc1; have Hcr := Lib.hid hcr; clear hcr; have Hll := Lib.hid hll; clear hll)
    go_enter Try.func53, Try.ntmps53
    go_wp2_with (at_builtin; refine wpList_apps _ rfl _ _ 67 rfl w.heap.size 73 _ _ _ Try.underlying67 infoMail rfl (by decide) sMl _ ([] : List Ml) rfl (Own.empty (Nat.le_refl _)) ad n c cs rfl Hcl.out ?c1 Hc1.out l Hll.out ?c3 ?c4 ?c5 ?c6 ?_)
    case c1 => intro j u hu; obtain ⟨k1, k2⟩ := Hcc.out j u hu; exact ((frAlloc w _).cell (by rw [block_of_add]; exact k2)).trans k1
    case c3 =>
      intro i x hx
      refine (sMl).more (S := LT w.heap.size) (fun b hb => ?_) ((sMl).keep (fun p hp => (frAlloc w _).cell hp) (Hcr.out i x hx))
      have hb' : b < w.heap.size := hb
      refine ⟨by simp; omega, ?_⟩
      intro e
      have e2 : some w.heap.size = some b := e
      have : w.heap.size = b := by injection e2
      omega
    case c4 => unfold maxLen; simp; omega
    case c5 => unfold lim; simp; omega
    case c6 => simp
    · intro v' w1 hown hg hge
      have HO : Hid (Own 13 eMl w1 w.heap.size 73 v' l) := hown
      have HF : Hid (Fr w w1) := (frAlloc w _).grown hg (by simp) hge
      clear hown hg hge
      go_wp2_with fail
      go_ret
      exact ⟨v', rfl, HO.out, HF.out⟩
set_option maxRecDepth 100000 in
set_option maxHeartbeats 2000000 in
/-- One element is taken out of a row. -/
theorem deleteMails_row (w : World) (g n cap k : Nat) (cs rest : List Value) (hg : w.heap[g]? = some (.cells (cs ++ rest).toArray 73 (0, 0))) (hl : cs.length = n * 13) (hall : cs.length + rest.length = cap * 13) (hnc : n ≤ cap) (hcm : cap ≤ maxLen) (h1 : ∀ u ∈ cs, u.oneCell' = true) (hk : k < n) :
    Calls Try.prog 54 #[.slice (some ⟨g, 0, none⟩) n cap, .int .i64 k, .int .i64 ((k : Int) + 1)] w fun e w' => e = .returned (.slice (some ⟨g, 0, none⟩) (n - 1) cap) ∧
      (∃ more, more.length = 13 + rest.length ∧ w'.heap[g]? = some (.cells ((cs.take (k * 13) ++ cs.drop ((k + 1) * 13)) ++ more).toArray 73 (0, 0))) ∧ w.grownBy w' (some g) := by
  unfold maxLen at hcm
  obtain ⟨i0, hi0, hi1⟩ := Option.map_eq_some_iff.1 infoMail
  simp only [Prod.mk.injEq] at hi1
  obtain ⟨hz0, hz1, hz2⟩ := hi1
  have hk1 : (k + 1) * 13 ≤ n * 13 := Nat.mul_le_mul_right _ hk
  have hk2 : (k + 1) * 13 = k * 13 + 13 := by rw [Nat.add_mul, Nat.one_mul]
  obtain ⟨news, hnews⟩ : ∃ news, news = cs.drop ((k + 1) * 13) := ⟨_, rfl⟩
  have hlen : news.length = (n - (k + 1)) * 13 := by rw [hnews, List.length_drop, hl, Nat.sub_mul]
  obtain ⟨A, hA, hsrc⟩ : ∃ A : Addr, (if cap = k + 1 then some (⟨g, 0, none⟩ : Addr) else some ⟨g, (k + 1) * 13, none⟩) = some A ∧ Hid (∀ t u, news[t]? = some u → w.drew.cell? (A.add t) = some u) := by
    by_cases h : cap = k + 1
    · refine ⟨⟨g, 0, none⟩, by simp [h], fun t u hu => ?_⟩
      have h0 : news.length = 0 := by rw [hlen, show n - (k + 1) = 0 from by omega, Nat.zero_mul]
      rw [List.length_eq_zero_iff.1 h0] at hu
      simp at hu
    · refine ⟨⟨g, (k + 1) * 13, none⟩, by simp [h], fun t u hu => ?_⟩
      have ht := (List.getElem?_eq_some_iff.1 hu).1
      rw [Addr.add_lit]
      rw [hnews, List.getElem?_drop] at hu
      exact cells_at (w := w.drew) hg hu
  have s1 : Hid (news.length = (n - (k + 1)) * 13) := hlen
  have s2 : Hid (∀ u ∈ news, u.oneCell' = true) := by
    intro u hu
    rw [hnews] at hu
    exact h1 u (List.mem_of_mem_drop hu)
  have hkn : k * 13 + news.length + 13 = n * 13 := by rw [hlen, Nat.sub_mul]; omega
  have s3 : Hid (k * 13 + news.length ≤ (cs ++ rest).length) := by rw [Hid, List.length_append]; omega
  have s4 : Hid (w.drew.heap[g]? = some (.cells (cs ++ rest).toArray 73 (0, 0))) := hg
  obtain ⟨mid, hmid⟩ : ∃ mid, mid = (cs ++ rest).drop (k * 13 + news.length) := ⟨_, rfl⟩
  have hml : mid.length = 13 + rest.length := by rw [hmid, List.length_drop, List.length_append]; omega
  have htk : (cs ++ rest).take (k * 13) = cs.take (k * 13) := List.take_append_of_le_length (by omega)
  obtain ⟨W1, hW1⟩ : ∃ W1, W1 = w.drew.setRow g ((cs ++ rest).take (k * 13) ++ (news ++ (cs ++ rest).drop (k * 13 + news.length))).toArray := ⟨_, rfl⟩
  have hG1 : W1.heap[g]? = some (.cells (cs.take (k * 13) ++ news ++ mid).toArray 73 (0, 0)) := by
    rw [hW1, htk, ← hmid, ← List.append_assoc]
    exact setRow_heap w.drew g _ _ 73 _ hg
  have hB1 : w.grownBy W1 (some g) := by
    rw [hW1]
    exact grown_setRow (w := w) (wr := w.drew) ⟨rfl, rfl, rfl, Nat.le_refl _, fun _ _ _ => rfl⟩ _
  have hkl : (cs.take (k * 13)).length = k * 13 := by rw [List.length_take]; omega
  have hpre : (cs.take (k * 13) ++ news).length = (n - 1) * 13 := by rw [List.length_append, hkl, Nat.sub_mul]; omega
  have hn1 : k + (n - (k + 1)) = n - 1 := by omega
  obtain ⟨W2, hW2⟩ : ∃ W2, W2 = W1.setRow g ((cs.take (k * 13) ++ news ++ mid).take ((n - 1) * 13) ++ (Builtin.zeroCells (Value.agg #[.int .i64 0, .int .i64 0, .int .i64 0, .int .i64 0, .int .i64 0, .int .i64 0, .int .i64 0, .int .i64 0, .int .i64 0, .int .i64 0, .slice none 0 0, .int .i64 0, .int .i64 0]).cells 1).toList ++ (cs.take (k * 13) ++ news ++ mid).drop ((n - 1) * 13 + 1 * (Value.agg #[.int .i64 0, .int .i64 0, .int .i64 0, .int .i64 0, .int .i64 0, .int .i64 0, .int .i64 0, .int .i64 0, .int .i64 0, .int .i64 0, .slice none 0 0, .int .i64 0, .int .i64 0]).cells.size)).toArray := ⟨_, rfl⟩
  have hcl : Hid (∀ ty, (Builtin.clear_ #[67] ty #[.slice (some ⟨g, (n - 1) * 13, none⟩) 1 (cap - (n - 1))]).run Try.prog W1 = .ok (.tuple #[]) W2) := fun ty => by
    rw [hW2]
    exact run_clear_row W1 _ _ ty (Value.agg #[.int .i64 0, .int .i64 0, .int .i64 0, .int .i64 0, .int .i64 0, .int .i64 0, .int .i64 0, .int .i64 0, .int .i64 0, .int .i64 0, .slice none 0 0, .int .i64 0, .int .i64 0]) Try.underlying67 (fun _ => rfl) (by decide) g _ 1 _ (by omega) _ _ hG1 (by simp only [List.length_append] at hpre ⊢; show _ + 1 * 13 ≤ _; omega)
  have R : Hid (∃ more, more.length = 13 + rest.length ∧ W2.heap[g]? = some (.cells ((cs.take (k * 13) ++ cs.drop ((k + 1) * 13)) ++ more).toArray 73 (0, 0))) := by
    rw [Hid, hW2]
    refine ⟨(Builtin.zeroCells (Value.agg #[.int .i64 0, .int .i64 0, .int .i64 0, .int .i64 0, .int .i64 0, .int .i64 0, .int .i64 0, .int .i64 0, .int .i64 0, .int .i64 0, .slice none 0 0, .int .i64 0, .int .i64 0]).cells 1).toList ++ mid.drop 13, ?_, ?_⟩
    · rw [List.length_append, List.length_drop, Array.length_toList, size_zeroCells]
      show 1 * 13 + _ = _
      omega
    · rw [setRow_heap W1 g _ _ 73 _ hG1, ← hnews]
      have e1 : (cs.take (k * 13) ++ news ++ mid).take ((n - 1) * 13) = cs.take (k * 13) ++ news := by rw [← hpre]; exact List.take_left
      have e2 : (cs.take (k * 13) ++ news ++ mid).drop ((n - 1) * 13 + 1 * (Value.agg #[.int .i64 0, .int .i64 0, .int .i64 0, .int .i64 0, .int .i64 0, .int .i64 0, .int .i64 0, .int .i64 0, .int .i64 0, .int .i64 0, .slice none 0 0, .int .i64 0, .int .i64 0]).cells.size) = mid.drop 13 := by
        rw [← hpre, List.drop_append, List.drop_eq_nil_of_le (by omega), List.nil_append]; congr 1; show _ + 1 * 13 - _ = _; omega
      rw [e1, e2, List.append_assoc (cs.take (k * 13) ++ news)]
  have R2 : Hid (w.grownBy W2 (some g)) := by rw [hW2]; exact grown_setRow hB1 _
  have hW : Hid (W1 = _) := hW1
  have hn2 : n - (n - 1) = 1 := by omega
  have hkc : k ≤ cap := by omega
  have hkc1 : k + 1 ≤ cap := by omega
  have hne : ¬ k = k + 1 := by omega
  have hn0 : n - 1 < n := by omega
  have hki : (k : Int) + 1 ≤ (n : Int) := by omega
  have hki0 : (0 : Int) ≤ (k : Int) + 1 := by omega
  clear hW1 hW2 hG1 hB1 hg hl hall h1 hk1 hk2 hnews hlen hkn hmid hml htk hkl hpre
  (have Hn1 := Lib.hid hn1; clear hn1; have Hz0 := Lib.hid hz0; clear hz0; have Hz2 := Lib.hid hz2; clear hz2)
  try simp only [Nat.mul_one] at hA hcl
  go_enter Try.func54, Try.ntmps54
  go_wp2_with fail
  go_region_law (refine step_append_row rfl (.tmp 22) (.tmp 25) 67 rfl 73 i0 13 Try.underlying67 hi0 hz1 g k cap (cs ++ rest) s4.out (by simp [Act.eval, Act.put]) A (n - (k + 1)) (cap - (k + 1)) news (by simp [Act.eval, Act.put]) s1.out hsrc.out s2.out (by omega) s3.out ?_; rw [← hW.out, Hn1.out])
  have hcl' := hcl.out
  go_wp2
  go_ret
  refine ⟨rfl, R.out, R2.out⟩

set_option maxHeartbeats 1000000 in
theorem deleteMails_own (w : World) (base k : Nat) (v : Value) (xs : List (Ml)) (ho : Own 13 eMl w base 73 v xs) (hk : k < xs.length) :
    Calls Try.prog 54 #[v, .int .i64 k, .int .i64 ((k : Int) + 1)] w fun e w' => ∃ v', e = .returned v' ∧ Own 13 eMl w' base 73 v' (xs.eraseIdx k) ∧ w.grownBy w' v.ownBlock ∧ (∀ b, v.ownBlock = some b → base ≤ b) := by
  obtain ⟨g, cap, cs, rest, rfl, hbg, hg, hnc, hcm, hl, hall, h1, hr⟩ := own_row fMl (by decide) ho (by omega)
  refine (deleteMails_row w g xs.length cap k cs rest hg hl hall hnc hcm h1 hk).mono ?_
  rintro e w' ⟨rfl, ⟨more, hml, hg'⟩, hG⟩
  have hle : (xs.eraseIdx k).length = xs.length - 1 := by rw [List.length_eraseIdx, if_pos hk]
  have hk1 : (k + 1) * 13 ≤ xs.length * 13 := Nat.mul_le_mul_right _ hk
  have hk2 : (k + 1) * 13 = k * 13 + 13 := by rw [Nat.add_mul, Nat.one_mul]
  have hcl : (cs.take (k * 13) ++ cs.drop ((k + 1) * 13)).length = (xs.eraseIdx k).length * 13 := by
    rw [List.length_append, List.length_take, List.length_drop, hle, hl, Nat.sub_mul]; omega
  refine ⟨_, rfl, ?_, hG, fun b hb => by injection hb with hb; subst hb; exact hbg⟩
  have := row_own (ys := xs.eraseIdx k) (w := w) (w' := w') (cap := cap) sMl hbg hg' hG (by omega) hcm hcl (by rw [hcl, hml, hle, Nat.sub_mul]; omega) fun i x hx => by
    obtain ⟨h2, hi⟩ := eraseIdx_get hx hk
    refine sMl.mono (fun j u hj hu => ?_) (hr _ x h2)
    rw [erase_get hl hk hj hi]; exact hu
  rw [hle] at this
  exact this
end Go.Proofs.Ytahkpbenebmmdaa
