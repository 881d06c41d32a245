/- slices.Delete of one element, and slices.Reverse, at slices of the call's own. No condition. -/
import Derived.Test.YtahkpbenebmmdaaRev
import Derived.Test.YtahkpbenebmmdaaOwnRow
set_option linter.unusedSimpArgs false
set_option linter.unusedVariables false
namespace Go.Proofs.Ytahkpbenebmmdaa
open Go.RowKit

theorem erase_get {α : Type} {size k i j : Nat} {xs : List α} {cs : List Value} (hl : cs.length = xs.length * size) (hk : k < xs.length) (hj : j < size) (hi : i < xs.length - 1) :
    (cs.take (k * size) ++ cs.drop ((k + 1) * size))[i * size + j]? = cs[(if i < k then i else i + 1) * size + j]? := by
  have h1 : k * size ≤ xs.length * size := Nat.mul_le_mul_right _ (by omega)
  have hkl : (cs.take (k * size)).length = k * size := by rw [List.length_take, hl]; omega
  have e1 : (k + 1) * size = k * size + size := by rw [Nat.add_mul, Nat.one_mul]
  split
  · rename_i h
    have h2 : (i + 1) * size ≤ k * size := Nat.mul_le_mul_right _ h
    rw [Nat.add_mul, Nat.one_mul] at h2
    rw [List.getElem?_append_left (by omega), List.getElem?_take, if_pos (by omega)]
  · rename_i h
    have h2 : k * size ≤ i * size := Nat.mul_le_mul_right _ (by omega)
    rw [List.getElem?_append_right (by omega), List.getElem?_drop, hkl, Nat.add_mul i 1 size, Nat.one_mul]
    congr 1; omega

theorem eraseIdx_get {α : Type} {xs : List α} {k i : Nat} {x : α} (h : (xs.eraseIdx k)[i]? = some x) (hk : k < xs.length) : xs[if i < k then i else i + 1]? = some x ∧ i < xs.length - 1 := by
  have hi := (List.getElem?_eq_some_iff.1 h).1
  rw [List.length_eraseIdx, if_pos hk] at hi
  refine ⟨?_, hi⟩
  rw [List.getElem?_eraseIdx] at h
  split at h <;> rename_i h' <;> simp [h'] <;> exact h

/-- append where there is room, in a row, as one step of a region that draws. -/
theorem step_append_row {P : Program} {ops : Array Oper} {o : Oper} {a : Act} {w : World} {K : Act → World → Prop} {Q : Exit → Act → World → Prop} {E : Prop}
    (hg : o.guard = none) (s x : Operand) (t : TypeId) (hop : o.op = Op.call { callee := Callee.builtin Builtin.append, args := #[s, x], argTypes := #[t, t] })
    (e : TypeId) (i : TypeInfo) (size : Nat) (h1 : P.underlying t = some (.slice e)) (h2 : P.info? e = some i) (h4 : i.size = size)
    (g n cap : Nat) (cur : List Value) (hr : w.heap[g]? = some (.cells cur.toArray e (0, 0))) (hs : a.eval s = .slice (some ⟨g, 0, none⟩) n cap)
    (ad : Addr) (m c : Nat) (news : List Value) (hx : a.eval x = .slice (some ad) m c) (hn : news.length = m * size) (hc : ∀ j u, news[j]? = some u → w.cell? (ad.add j) = some u) (h1c : ∀ u ∈ news, u.oneCell' = true)
    (hroom : n + m ≤ cap) (hfit : n * size + news.length ≤ cur.length)
    (hK : K (a.put o.dst (.slice (some ⟨g, 0, none⟩) (n + m) cap)) (w.setRow g (cur.take (n * size) ++ (news ++ cur.drop (n * size + news.length))).toArray)) :
    if Region.wanted o (yielded ops a.tmps) = true then Oper.wp P o a w K Q else E := by
  have hw : Region.wanted o (yielded ops a.tmps) = true := by simp [Region.wanted, hg]
  rw [if_pos hw]
  subst h4
  have hrun := run_append_room (P := P) w t o.type e i h1 h2 g n cap cur.toArray hr ad m c news hn hc h1c hroom (by simpa using hfit)
  unfold Oper.wp
  simp [execOp, hop, resolve, invoke, builtin, hs, hx, hrun, Result.andThen]
  exact hK
theorem grown_setRow {w wr : World} {g : Nat} (h : w.grownBy wr (some g)) (cs : Array Value) : w.grownBy (wr.setRow g cs) (some g) :=
  ⟨h.os, h.tape, h.output, by rw [size_setRow]; exact h.size, fun k hk hne => by rw [setRow_other wr g k cs (fun e => hne (by rw [e]))]; exact h.block k hk hne⟩

set_option maxRecDepth 100000 in
set_option maxHeartbeats 2000000 in
/-- One element is taken out of a row. -/
theorem deleteBlock_row (w : World) (g n cap k : Nat) (cs rest : List Value) (hg : w.heap[g]? = some (.cells (cs ++ rest).toArray 29 (0, 0))) (hl : cs.length = n * 1) (hall : cs.length + rest.length = cap * 1) (hnc : n ≤ cap) (hcm : cap ≤ maxLen) (h1 : ∀ u ∈ cs, u.oneCell' = true) (hk : k < n) :
    Calls Try.prog 28 #[.slice (some ⟨g, 0, none⟩) n cap, .int .i64 k, .int .i64 ((k : Int) + 1)] w fun e w' => e = .returned (.slice (some ⟨g, 0, none⟩) (n - 1) cap) ∧
      (∃ more, more.length = 1 + rest.length ∧ w'.heap[g]? = some (.cells ((cs.take (k * 1) ++ cs.drop ((k + 1) * 1)) ++ more).toArray 29 (0, 0))) ∧ w.grownBy w' (some g) := by
  unfold maxLen at hcm
  obtain ⟨i0, hi0, hi1⟩ := Option.map_eq_some_iff.1 infoBlock
  simp only [Prod.mk.injEq] at hi1
  obtain ⟨hz0, hz1, hz2⟩ := hi1
  have hk1 : (k + 1) * 1 ≤ n * 1 := Nat.mul_le_mul_right _ hk
  have hk2 : (k + 1) * 1 = k * 1 + 1 := by rw [Nat.add_mul, Nat.one_mul]
  obtain ⟨news, hnews⟩ : ∃ news, news = cs.drop ((k + 1) * 1) := ⟨_, rfl⟩
  have hlen : news.length = (n - (k + 1)) * 1 := by rw [hnews, List.length_drop, hl, Nat.sub_mul]
  obtain ⟨A, hA, hsrc⟩ : ∃ A : Addr, (if cap = k + 1 then some (⟨g, 0, none⟩ : Addr) else some ⟨g, (k + 1) * 1, none⟩) = some A ∧ Hid (∀ t u, news[t]? = some u → w.drew.cell? (A.add t) = some u) := by
    by_cases h : cap = k + 1
    · refine ⟨⟨g, 0, none⟩, by simp [h], fun t u hu => ?_⟩
      have h0 : news.length = 0 := by rw [hlen, show n - (k + 1) = 0 from by omega, Nat.zero_mul]
      rw [List.length_eq_zero_iff.1 h0] at hu
      simp at hu
    · refine ⟨⟨g, (k + 1) * 1, none⟩, by simp [h], fun t u hu => ?_⟩
      have ht := (List.getElem?_eq_some_iff.1 hu).1
      rw [Addr.add_lit]
      rw [hnews, List.getElem?_drop] at hu
      exact cells_at (w := w.drew) hg hu
  have s1 : Hid (news.length = (n - (k + 1)) * 1) := hlen
  have s2 : Hid (∀ u ∈ news, u.oneCell' = true) := by
    intro u hu
    rw [hnews] at hu
    exact h1 u (List.mem_of_mem_drop hu)
  have hkn : k * 1 + news.length + 1 = n * 1 := by rw [hlen, Nat.sub_mul]; omega
  have s3 : Hid (k * 1 + news.length ≤ (cs ++ rest).length) := by rw [Hid, List.length_append]; omega
  have s4 : Hid (w.drew.heap[g]? = some (.cells (cs ++ rest).toArray 29 (0, 0))) := hg
  obtain ⟨mid, hmid⟩ : ∃ mid, mid = (cs ++ rest).drop (k * 1 + news.length) := ⟨_, rfl⟩
  have hml : mid.length = 1 + rest.length := by rw [hmid, List.length_drop, List.length_append]; omega
  have htk : (cs ++ rest).take (k * 1) = cs.take (k * 1) := List.take_append_of_le_length (by omega)
  obtain ⟨W1, hW1⟩ : ∃ W1, W1 = w.drew.setRow g ((cs ++ rest).take (k * 1) ++ (news ++ (cs ++ rest).drop (k * 1 + news.length))).toArray := ⟨_, rfl⟩
  have hG1 : W1.heap[g]? = some (.cells (cs.take (k * 1) ++ news ++ mid).toArray 29 (0, 0)) := by
    rw [hW1, htk, ← hmid, ← List.append_assoc]
    exact setRow_heap w.drew g _ _ 29 _ hg
  have hB1 : w.grownBy W1 (some g) := by
    rw [hW1]
    exact grown_setRow (w := w) (wr := w.drew) ⟨rfl, rfl, rfl, Nat.le_refl _, fun _ _ _ => rfl⟩ _
  have hkl : (cs.take (k * 1)).length = k * 1 := by rw [List.length_take]; omega
  have hpre : (cs.take (k * 1) ++ news).length = (n - 1) * 1 := by rw [List.length_append, hkl, Nat.sub_mul]; omega
  have hn1 : k + (n - (k + 1)) = n - 1 := by omega
  obtain ⟨W2, hW2⟩ : ∃ W2, W2 = W1.setRow g ((cs.take (k * 1) ++ news ++ mid).take ((n - 1) * 1) ++ (Builtin.zeroCells (Value.slice none 0 0).cells 1).toList ++ (cs.take (k * 1) ++ news ++ mid).drop ((n - 1) * 1 + 1 * (Value.slice none 0 0).cells.size)).toArray := ⟨_, rfl⟩
  have hcl : Hid (∀ ty, (Builtin.clear_ #[32] ty #[.slice (some ⟨g, (n - 1) * 1, none⟩) 1 (cap - (n - 1))]).run Try.prog W1 = .ok (.tuple #[]) W2) := fun ty => by
    rw [hW2]
    exact run_clear_row W1 _ _ ty (Value.slice none 0 0) Try.underlying32 (fun _ => rfl) (by decide) g _ 1 _ (by omega) _ _ hG1 (by simp only [List.length_append] at hpre ⊢; show _ + 1 * 1 ≤ _; omega)
  have R : Hid (∃ more, more.length = 1 + rest.length ∧ W2.heap[g]? = some (.cells ((cs.take (k * 1) ++ cs.drop ((k + 1) * 1)) ++ more).toArray 29 (0, 0))) := by
    rw [Hid, hW2]
    refine ⟨(Builtin.zeroCells (Value.slice none 0 0).cells 1).toList ++ mid.drop 1, ?_, ?_⟩
    · rw [List.length_append, List.length_drop, Array.length_toList, size_zeroCells]
      show 1 * 1 + _ = _
      omega
    · rw [setRow_heap W1 g _ _ 29 _ hG1, ← hnews]
      have e1 : (cs.take (k * 1) ++ news ++ mid).take ((n - 1) * 1) = cs.take (k * 1) ++ news := by rw [← hpre]; exact List.take_left
      have e2 : (cs.take (k * 1) ++ news ++ mid).drop ((n - 1) * 1 + 1 * (Value.slice none 0 0).cells.size) = mid.drop 1 := by
        rw [← hpre, List.drop_append, List.drop_eq_nil_of_le (by omega), List.nil_append]; congr 1; show _ + 1 * 1 - _ = _; omega
      rw [e1, e2, List.append_assoc (cs.take (k * 1) ++ news)]
  have R2 : Hid (w.grownBy W2 (some g)) := by rw [hW2]; exact grown_setRow hB1 _
  have hW : Hid (W1 = _) := hW1
  have hn2 : n - (n - 1) = 1 := by omega
  have hkc : k ≤ cap := by omega
  have hkc1 : k + 1 ≤ cap := by omega
  have hne : ¬ k = k + 1 := by omega
  have hn0 : n - 1 < n := by omega
  have hki : (k : Int) + 1 ≤ (n : Int) := by omega
  have hki0 : (0 : Int) ≤ (k : Int) + 1 := by omega
  clear hW1 hW2 hG1 hB1 hg hl hall h1 hk1 hk2 hnews hlen hkn hmid hml htk hkl hpre
  (have Hn1 := Lib.hid hn1; clear hn1; have Hz0 := Lib.hid hz0; clear hz0; have Hz2 := Lib.hid hz2; clear hz2)
  try simp only [Nat.mul_one] at hA hcl
  go_enter Try.func28, Try.ntmps28
  go_wp2_with fail
  go_region_law (refine step_append_row rfl (.tmp 22) (.tmp 25) 32 rfl 29 i0 1 Try.underlying32 hi0 hz1 g k cap (cs ++ rest) s4.out (by simp [Act.eval, Act.put]) A (n - (k + 1)) (cap - (k + 1)) news (by simp [Act.eval, Act.put]) s1.out hsrc.out s2.out (by omega) s3.out ?_; rw [← hW.out, Hn1.out])
  have hcl' := hcl.out
  go_wp2
  go_ret
  refine ⟨rfl, R.out, R2.out⟩

set_option maxHeartbeats 1000000 in
theorem deleteBlock_own (w : World) (base k : Nat) (v : Value) (xs : List (List UInt8)) (ho : Own 1 eBlock w base 29 v xs) (hk : k < xs.length) :
    Calls Try.prog 28 #[v, .int .i64 k, .int .i64 ((k : Int) + 1)] w fun e w' => ∃ v', e = .returned v' ∧ Own 1 eBlock w' base 29 v' (xs.eraseIdx k) ∧ w.grownBy w' v.ownBlock ∧ (∀ b, v.ownBlock = some b → base ≤ b) := by
  obtain ⟨g, cap, cs, rest, rfl, hbg, hg, hnc, hcm, hl, hall, h1, hr⟩ := own_row fSl (by decide) ho (by omega)
  refine (deleteBlock_row w g xs.length cap k cs rest hg hl hall hnc hcm h1 hk).mono ?_
  rintro e w' ⟨rfl, ⟨more, hml, hg'⟩, hG⟩
  have hle : (xs.eraseIdx k).length = xs.length - 1 := by rw [List.length_eraseIdx, if_pos hk]
  have hk1 : (k + 1) * 1 ≤ xs.length * 1 := Nat.mul_le_mul_right _ hk
  have hk2 : (k + 1) * 1 = k * 1 + 1 := by rw [Nat.add_mul, Nat.one_mul]
  have hcl : (cs.take (k * 1) ++ cs.drop ((k + 1) * 1)).length = (xs.eraseIdx k).length * 1 := by
    rw [List.length_append, List.length_take, List.length_drop, hle, hl, Nat.sub_mul]; omega
  refine ⟨_, rfl, ?_, hG, fun b hb => by injection hb with hb; subst hb; exact hbg⟩
  have := row_own (ys := xs.eraseIdx k) (w := w) (w' := w') (cap := cap) wBlock hbg hg' hG (by omega) hcm hcl (by rw [hcl, hml, hle, Nat.sub_mul]; omega) fun i x hx => by
    obtain ⟨h2, hi⟩ := eraseIdx_get hx hk
    refine wBlock.mono (fun j u hj hu => ?_) (hr _ x h2)
    rw [erase_get hl hk hj hi]; exact hu
  rw [hle] at this
  exact this

theorem reverse_own (w : World) (base : Nat) (v : Value) (ls : List (List UInt8)) (ho : Own 1 eBlock w base 29 v ls) (hn : 0 < ls.length) (hm : ls.length ≤ lim) :
    Calls Try.prog 27 #[v] w fun e w' => e = .returned (.tuple #[]) ∧ Own 1 eBlock w' base 29 v ls.reverse ∧ w.grownBy w' v.ownBlock ∧ (∀ b, v.ownBlock = some b → base ≤ b) := by
  obtain ⟨g, cap, cs, rest, rfl, hbg, hg, hnc, hcm, hl, hall, h1, hr⟩ := own_row fSl (by decide) ho hn
  rw [Nat.mul_one] at hl
  refine (reverse_row w g ls.length cap _ cs rest hg hl hm ?_).mono ?_
  · intro u hu
    obtain ⟨i, hi, rfl⟩ := List.mem_iff_getElem.1 hu
    obtain ⟨A, m, c, h0, _⟩ := hr i _ (List.getElem?_eq_getElem (show i < ls.length by omega))
    simp only [Nat.mul_one, Nat.add_zero] at h0
    rw [List.getElem?_eq_getElem hi] at h0
    injection h0 with h0
    exact ⟨A, m, c, h0⟩
  · rintro e w' ⟨rfl, hg', hG⟩
    refine ⟨rfl, ?_, hG, fun b hb => by injection hb with hb; subst hb; exact hbg⟩
    have := row_own (ys := ls.reverse) (w := w) (w' := w') (cap := cap) wBlock hbg hg' hG (by simpa using hnc) hcm (by simp [hl]) (by rw [List.length_reverse]; exact hall) fun i x hx => by
      have hi : i < ls.length := by have := (List.getElem?_eq_some_iff.1 hx).1; simpa using this
      rw [List.getElem?_reverse hi] at hx
      refine wBlock.mono (fun j u hj hu => ?_) (hr _ x hx)
      obtain rfl : j = 0 := by omega
      simp only [Nat.mul_one, Nat.add_zero] at hu ⊢
      rw [List.getElem?_reverse (by omega), hl]; exact hu
    rw [List.length_reverse] at this
    exact this
end Go.Proofs.Ytahkpbenebmmdaa
