/- Contracts of package cut. No condition. -/
import Derived.Test.YtnfjghldcopaaaaOwn
import Derived.Test.YtnfjghldcopaaaaCutP
import Derived.Deep.LoopGhost
import Derived.Deep.RegionLaw
set_option linter.unusedSimpArgs false
set_option linter.unusedVariables false
namespace Go.Proofs.Ytnfjghldcopaaaa
open Go.RowKit

theorem cutBlocks_any (w : World) (B K : Int) (hB : wfI B) (hK : wfI K) :
    Calls Try.prog 41 #[.agg #[.int .i64 B, .int .i64 K]] w fun e w' => e = .returned (.int .i64 (blocksOf B K)) ∧ Fr w w' := by
  obtain ⟨hB1, hB2⟩ := hB.bd
  obtain ⟨hK1, hK2⟩ := hK.bd
  by_cases h : K < 1 ∨ B < 1
  · have E : Hid (blocksOf B K = 0) := if_pos h
    by_cases h1 : K < 1
    · clear h hB1 hB2 hK1 hK2
      go_enter Try.func41, Try.ntmps41
      go_wp2
      go_ret
      exact ⟨retI E.out.symm, (by (repeat' (first | exact Below.refl _ _ | refine below_drewN ?_ _ | refine Below.drew ?_ | refine frA ?_ _ | refine Fr.trans ?_ Hf1.out)))⟩
    · have h2 : B < 1 := by omega
      clear h hB1 hB2 hK1 hK2
      go_enter Try.func41, Try.ntmps41
      go_wp2
      go_ret
      exact ⟨retI E.out.symm, (by (repeat' (first | exact Below.refl _ _ | refine below_drewN ?_ _ | refine Below.drew ?_ | refine frA ?_ _ | refine Fr.trans ?_ Hf1.out)))⟩
  · have E : Hid (blocksOf B K = (B - 1) / K + 1) := if_neg h
    have h1 : ¬ K < 1 := by omega
    have h2 : ¬ B < 1 := by omega
    have e1 : wrap64 (B - 1) = B - 1 := IntWalk.wrap64_in _ (by omega)
    have h4 : 0 ≤ (B - 1) / K := Int.ediv_nonneg (by omega) (by omega)
    have h5 : (B - 1) / K ≤ B - 1 := Int.ediv_le_self _ (by omega)
    clear h
    go_enter Try.func41, Try.ntmps41
    go_wp2
    go_ret
    exact ⟨retI E.out.symm, (by (repeat' (first | exact Below.refl _ _ | refine below_drewN ?_ _ | refine Below.drew ?_ | refine frA ?_ _ | refine Fr.trans ?_ Hf1.out)))⟩

/-- A box of a struct of two ints, still there. -/
theorem box2 {w w1 : World} {a b : Value} {t : TypeId} (hf : Fr (w.alloc (.cells #[a, b] t)) w1) : w1.cell? ⟨w.heap.size, 0, none⟩ = some a ∧ w1.cell? ⟨w.heap.size, 1, none⟩ = some b :=
  ⟨(hf.cell (p := ⟨w.heap.size, 0, none⟩) (by simp)).trans (cell_of_heap (heap_new rfl)), (hf.cell (p := ⟨w.heap.size, 1, none⟩) (by simp)).trans (cell_of_heap (heap_new rfl))⟩

set_option maxHeartbeats 400000 in
theorem cutCheck_any (w : World) (B K : Int) (hB : wfI B) (hK : wfI K) :
    Calls Try.prog 33 #[.agg #[.int .i64 B, .int .i64 K]] w fun e w' => e = .returned (.int .i64 (cutCheck B K)) ∧ Fr w w' := by
  by_cases h : B < 1 ∨ 360 < B ∨ K < 1 ∨ 16 < K
  · have E : Hid (cutCheck B K = 3) := if_pos h
    by_cases h1 : B < 1
    · clear h
      go_enter Try.func33, Try.ntmps33
      go_wp2_with fail
      go_ret
      exact ⟨retI E.out.symm, (by (repeat' (first | exact Below.refl _ _ | refine below_drewN ?_ _ | refine Below.drew ?_ | refine frA ?_ _ | refine Fr.trans ?_ Hf1.out)))⟩
    · by_cases h2 : 360 < B
      · clear h
        go_enter Try.func33, Try.ntmps33
        go_wp2_with fail
        go_ret
        exact ⟨retI E.out.symm, (by (repeat' (first | exact Below.refl _ _ | refine below_drewN ?_ _ | refine Below.drew ?_ | refine frA ?_ _ | refine Fr.trans ?_ Hf1.out)))⟩
      · by_cases h3 : K < 1
        · clear h
          go_enter Try.func33, Try.ntmps33
          go_wp2_with fail
          go_ret
          exact ⟨retI E.out.symm, (by (repeat' (first | exact Below.refl _ _ | refine below_drewN ?_ _ | refine Below.drew ?_ | refine frA ?_ _ | refine Fr.trans ?_ Hf1.out)))⟩
        · have h4 : 16 < K := by omega
          clear h
          go_enter Try.func33, Try.ntmps33
          go_wp2_with fail
          go_ret
          exact ⟨retI E.out.symm, (by (repeat' (first | exact Below.refl _ _ | refine below_drewN ?_ _ | refine Below.drew ?_ | refine frA ?_ _ | refine Fr.trans ?_ Hf1.out)))⟩
  · have h1 : ¬ B < 1 := by omega
    have h2 : ¬ 360 < B := by omega
    have h3 : ¬ K < 1 := by omega
    have h4 : ¬ 16 < K := by omega
    have E : Hid (cutCheck B K = if 24 < blocksOf B K then 2 else 0) := if_neg h
    clear h
    by_cases h5 : 24 < blocksOf B K
    all_goals
      have E2 := Lib.hid h5
      go_enter Try.func33, Try.ntmps33
      go_wp2_with fail
      refine (cutBlocks_any _ _ _ hB hK).mono ?_
      rintro e w1 ⟨rfl, hf1⟩
      (have Hf1 := Lib.hid hf1; clear hf1)
      go_wp2_with fail
      go_ret
      exact ⟨retI (by rw [E.out]; simp [E2.out]), (by (repeat' (first | exact Below.refl _ _ | refine below_drewN ?_ _ | refine Below.drew ?_ | refine frA ?_ _ | refine Fr.trans ?_ Hf1.out)))⟩

theorem splice_pad (K : Nat) (l : List UInt8) (h : l.length ≤ K) : splice ((List.replicate K (0 : UInt8)).map bV) 0 (l.map bV) = (padTo K l).map bV := by
  unfold splice padTo
  simp [List.drop_replicate]

set_option maxHeartbeats 2000000 in
theorem cutCut_ok (w : World) (A : Option Addr) (n c K : Nat) (cargo : List UInt8) (h : Sl 1 eByte w (LT w.heap.size) A n cargo) (hnc : n ≤ c) (hcm : c ≤ maxLen) (hck : cutCheck n K = 0) :
    Calls Try.prog 27 #[.agg #[.int .i64 n, .int .i64 K], .slice A n c] w fun e w' => ∃ v, e = .returned (.tuple #[v, .int .i64 0]) ∧ Own 1 eBlock w' w.heap.size 27 v (cutF K n cargo) ∧ Fr w w' := by
  obtain ⟨⟨h1, h2⟩, ⟨h3, h4⟩, _⟩ := cutCheck_ok hck
  have CC := Lib.hid (fun W : World => cutCheck_any W (n : Int) (K : Int) (wfI.mk (by omega)) (wfI.mk (by omega)))
  rw [hck] at CC
  have hn1 : 1 ≤ n ∧ n ≤ 360 := by omega
  have hK1 : 1 ≤ K ∧ K ≤ 16 := by omega
  obtain ⟨hn1, hn2⟩ := hn1
  obtain ⟨hK1, hK2⟩ := hK1
  have hmk := run_make_ca (P := Try.prog) bV 0 27 5 1 Try.underlying27 infoByte rfl .i64 .i64 K (by omega) (by omega)
  clear h1 h2 h3 h4
  (have H := Lib.hid h; clear h; have Hck := Lib.hid hck; clear hck)
  go_enter Try.func27, Try.ntmps27
  go_wp2_with fail
  refine (CC.out _).mono ?_
  rintro e w1 ⟨rfl, hf1⟩
  have hf0 : Fr w w1 := (frAlloc _ _).trans hf1
  obtain ⟨hb0, hb1⟩ := box2 hf1
  have hs1 := H.out.go sByte hf0
  (have Hf1 := Lib.hid hf1; clear hf1; have Hf0 := Lib.hid hf0; clear hf0; have Hs1 := Lib.hid hs1; clear hs1)
  go_wp2_with fail
  go_loopg [1, 7] n (fun g cv v wr => ∃ A c rest done, cv = .slice A g c ∧ g ≤ c ∧ c ≤ maxLen ∧ Hid (Sl 1 eByte w1 (LT w1.heap.size) A g rest) ∧ Hid (Own 1 eBlock wr w1.heap.size 27 v done) ∧ Hid (cutF K n cargo = done ++ cutF K g rest) ∧ done.length + g ≤ n ∧ Hid (Fr w1 wr))
  case atStart => exact ⟨A, c, cargo, [], rfl, hnc, hcm, Hs1, Own.nil, rfl, by simp, Below.refl _ _⟩
  case round =>
    obtain ⟨A', c', rest, done, rfl, hgc, hcm', HR, HO, HP, hdl, HF⟩ := hrel
    have hb0' : wr.cell? ⟨w.heap.size, 0, none⟩ = some (.int .i64 n) := (HF.out.cell (World.block_lt_of_cell? w1 _ hb0)).trans hb0
    have hb1' : wr.cell? ⟨w.heap.size, 1, none⟩ = some (.int .i64 K) := (HF.out.cell (World.block_lt_of_cell? w1 _ hb1)).trans hb1
    by_cases hg : 0 < gk
    · obtain ⟨ad, rfl, hE⟩ := HR.out.els hg
      obtain ⟨m, hm, hmg, hmK⟩ : ∃ m, min gk K = m ∧ m ≤ gk ∧ 1 ≤ m := ⟨_, rfl, by omega, by omega⟩
      have HM := Lib.hid hm
      have hm2 : m ≤ K := by omega
      clear hm
      obtain ⟨X, hX⟩ : ∃ X, X = rest.take K := ⟨_, rfl⟩
      have hXl : Hid (X.length = m) := by rw [Hid, hX, List.length_take, HR.out.1]; have := HM.out; omega
      have hXl2 : X.length = m := hXl.out
      have HX := Lib.hid hX
      clear hX
      go_wp2_with (first | (with_reducible refine wpList_copy_splice rfl (.tmp 26) (.tmp 27) 27 26 rfl 5 Try.underlying27 (by kernel_rfl) _ _ _ _ _ _ rfl rfl wr.heap.size 0 ((List.replicate K (0 : UInt8)).map bV) 5 (heap_new rfl) (X.map bV) ?d1 ?d2 ?d3 ?d4 wr.heap.size wr ?d5 ?d6 ?_))
      case d1 => have := hXl.out; have := HM.out; simp [Nat.min_def]; (try split) <;> omega
      case d2 =>
        intro _
        first | refine ⟨rfl, ad, rfl, ?_⟩ | skip
        intro j y hy
        rw [HX.out, List.getElem?_take] at hy
        split at hy
        · have := hE.2.2 j y hy
          refine ((frA HF.out _).cell (p := ad.add j) (by rw [block_of_add]; exact hE.2.1)).trans ?_
          simpa [eByte, bV] using this
        · cases hy
      case d3 => have := hXl.out; simp; omega
      case d4 => intro u hu; obtain ⟨y, _, rfl⟩ := List.mem_map.1 hu; rfl
      case d5 => exact frA (Below.refl _ _) _
      case d6 => exact Nat.le_refl _
      intro w2 HG2 hB2
      have HP2 : Hid (w2.heap[wr.heap.size]? = some (.cells (ca bV (padTo K X)) 5 (0, 0))) := by
        have e1 := splice_pad K X (by rw [hXl.out]; exact hm2)
        rw [List.map_replicate] at e1
        have := HG2.out
        rw [e1] at this
        exact this
      clear HG2
      have HO2 : Hid (Own 1 eBlock w2 w1.heap.size 27 u7 done) := HO.out.fr wBlock hB2
      have RD : Hid (eBlock (w2.alloc (.cells #[.slice (some ⟨wr.heap.size, 0, none⟩) K K] 27)).drew (fun b => b < (w2.alloc (.cells #[.slice (some ⟨wr.heap.size, 0, none⟩) K K] 27)).drew.heap.size ∧ u7.ownBlock ≠ some b) (fun j => [Value.slice (some ⟨wr.heap.size, 0, none⟩) K K][0 * 1 + j]?) (padTo K X)) := by
        refine ⟨_, _, _, rfl, ⟨by unfold lim; omega, Nat.le_refl _, by unfold maxLen; omega⟩, ca_bytes (heap_d (heap_old HP2.out)) ⟨?_, fun e => ?_⟩ (length_padTo (by rw [hXl.out]; exact hm2))⟩
        · exact ca_lt (heap_old (o := .cells #[.slice (some ⟨wr.heap.size, 0, none⟩) K K] 27) HP2.out)
        · obtain ⟨cs, ho, _⟩ := HO.out
          have := (ho.lt _ e).2
          omega
      have HPn : Hid (cutF K n cargo = (done ++ [padTo K X]) ++ cutF K (gk - m) (rest.drop m)) := by
        have hl := HR.out.1
        have e1 := cutF_step hK1 (c := rest) (by omega)
        have e2 : rest.drop K = rest.drop m := by
          have := HM.out
          rcases Nat.lt_or_ge gk K with h | h
          · rw [List.drop_eq_nil_of_le (by omega), List.drop_eq_nil_of_le (by omega)]
          · rw [show m = K from by omega]
        rw [hl, e2, ← HX.out, show (rest.drop m).length = gk - m from by rw [List.length_drop, hl]] at e1
        rw [Hid, HP.out, e1, List.append_assoc]
        rfl
      have HFb := Lib.hid hB2
      clear hB2
      go_wp2_with fail
      go_region_law (refine step_apps rfl (.tmp 29) (.tmp 31) 35 rfl w1.heap.size 27 (.slice none 0 0) 1 24 Try.underlying35 infoBlock rfl (by decide) wBlock _ done (by simp [Act.eval, Act.put]) (HO2.out.fr wBlock (by (repeat' (first | exact Below.refl _ _ | refine below_drewN ?_ _ | refine Below.drew ?_ | refine frA ?_ _ | refine Fr.trans ?_ Hf1.out)))) ⟨w2.heap.size, 0, none⟩ 1 1 [.slice (some ⟨wr.heap.size, 0, none⟩) K K] (by simp [Act.eval, Act.put]) rfl (by exact cell_one_new _ _ _) (by simp [Value.oneCell']) [padTo K X] rfl (by intro i x hx; obtain rfl : i = 0 := (by have := (List.getElem?_eq_some_iff.1 hx).1; simp at this; omega); obtain rfl : padTo K X = x := (by simpa using hx); exact RD.out) (by unfold maxLen; omega) (by unfold lim; omega) (by simp; have := HFb.out.size; have := HF.out.size; omega) ?_; intro v' w3 ho3 hg3 hge3)
      have ho4 := Lib.hid ho3
      have HF4 : Hid (Fr w1 w3) := by
        have h1 : Fr w1 (w2.alloc (.cells #[.slice (some ⟨wr.heap.size, 0, none⟩) K K] 27)).drew := (frA (HF.out.trans HFb.out) _).drew
        exact h1.grown hg3 h1.size hge3
      clear ho3 hg3 hge3
      have HCUT := Lib.hid (HR.out.cut (k := m) (cap := c') (by omega) hgc)
      go_wp2_with fail
      · have hcm2 : c' = m := by assumption
        go_roundg (gk - m)
        case measure => omega
        case rel => exact ⟨some ad, 0, rest.drop m, done ++ [padTo K X], rfl, by omega, by omega, ⟨by rw [List.length_drop, HR.out.1], fun h => by omega⟩, ho4, HPn, by simp; omega, HF4⟩
      · have hcm2 : ¬ c' = m := by assumption
        go_roundg (gk - m)
        case measure => omega
        case rel =>
          refine ⟨_, c' - m, rest.drop m, done ++ [padTo K X], rfl, by omega, by omega, ?_, ho4, HPn, by simp; omega, HF4⟩
          have := HCUT.out
          rw [if_neg hcm2, Nat.mul_one] at this
          exact this
    · have hg0 : gk = 0 := by omega
      have HR0 : Hid (rest.length = 0) := HR.out.1.trans hg0
      have HF5 : Hid (Own 1 eBlock wr w.heap.size 27 u7 (cutF K n cargo)) := by
        have e1 : cutF K n cargo = done := by rw [HP.out, List.eq_nil_of_length_eq_zero HR0.out, cutF_nil, List.append_nil]
        rw [e1]; exact HO.out.lower Hf0.out.size
      go_wp2_with fail
      go_ret2
      exact ⟨u7, rfl, HF5.out, Hf0.out.trans HF.out⟩

set_option maxHeartbeats 400000 in
/-- What cut.Cut answers. -/
theorem cutCut_any (w : World) (A : Option Addr) (n c : Nat) (B K : Int) (cargo : List UInt8) (h : Sl 1 eByte w (LT w.heap.size) A n cargo) (hnc : n ≤ c) (hcm : c ≤ maxLen) (wB : wfI B) (wK : wfI K) :
    Calls Try.prog 27 #[.agg #[.int .i64 B, .int .i64 K], .slice A n c] w fun e w' => ∃ v, e = .returned (.tuple #[v, .int .i64 (cutUp B K cargo).2]) ∧ Own 1 eBlock w' w.heap.size 27 v (cutUp B K cargo).1 ∧ Fr w w' := by
  have hl := h.1
  by_cases hck : cutCheck B K = 0
  · by_cases hn : (n : Int) = B
    · subst hn
      obtain ⟨k, rfl⟩ := Int.eq_ofNat_of_zero_le (show 0 ≤ K by have := (cutCheck_ok hck).2.1; omega)
      have E : cutUp n k cargo = (cutF k n cargo, 0) := by
        unfold cutUp
        rw [if_neg (by simp [hck]), if_neg (by simp [hl]), hl]
        rfl
      rw [E]
      exact cutCut_ok w A n c k cargo h hnc hcm hck
    · have E : Hid (cutUp B K cargo = ([], 4)) := by
        unfold cutUp Hid
        rw [if_neg (by simp [hck]), if_pos (by rw [hl]; exact hn)]
      have CC := Lib.hid (fun W : World => cutCheck_any W B K wB wK)
      rw [hck] at CC
      have hne : ((n : Int) != B) = true := by rw [bne_iff_ne]; exact hn
      clear hck hn hl h
      go_enter Try.func27, Try.ntmps27
      go_wp2_with fail
      refine (CC.out _).mono ?_
      rintro e w1 ⟨rfl, hf1⟩
      have hf0 : Fr w w1 := (frAlloc _ _).trans hf1
      obtain ⟨hb0, hb1⟩ := box2 hf1
      (have Hf1 := Lib.hid hf1; clear hf1; have Hf0 := Lib.hid hf0; clear hf0)
      go_wp2_with fail
      go_ret2
      rw [E.out]
      exact ⟨_, rfl, Own.nil, Hf0.out⟩
  · have E : Hid (cutUp B K cargo = ([], cutCheck B K)) := if_pos hck
    have CC := Lib.hid (fun W : World => cutCheck_any W B K wB wK)
    have hne : (cutCheck B K != 0) = true := by rw [bne_iff_ne]; exact hck
    clear hck hl h
    go_enter Try.func27, Try.ntmps27
    go_wp2_with fail
    refine (CC.out _).mono ?_
    rintro e w1 ⟨rfl, hf1⟩
    have hf0 : Fr w w1 := (frAlloc _ _).trans hf1
    obtain ⟨hb0, hb1⟩ := box2 hf1
    (have Hf1 := Lib.hid hf1; clear hf1; have Hf0 := Lib.hid hf0; clear hf0)
    go_wp2_with fail
    go_ret2
    rw [E.out]
    exact ⟨_, rfl, Own.nil, Hf0.out⟩
end Go.Proofs.Ytnfjghldcopaaaa
