/- The closed fact on systems. No condition. -/
import Derived.Test.YtnfjghldcopaaaaSysSame
import Derived.Deep.DeepCutAuto
import Derived.Deep.Cut
set_option linter.unusedSimpArgs false
set_option linter.unusedVariables false
namespace Go.Proofs.Ytnfjghldcopaaaa
open Go.RowKit
attribute [local irreducible] wpList

theorem Sl.stored3 {α : Type} {size : Nat} {r : ERd α} {w : World} {a b n p : Nat} {A : Option Addr} {xs : List α} {v0 v1 v2 : Value} (s : Stable size r) (h : Sl size r w (NW a b) A n xs) (hp : p < a) : Sl size r (((w.setCell ⟨p, 0, none⟩ v0).setCell ⟨p, 1, none⟩ v1).setCell ⟨p, 2, none⟩ v2) (NW a b) A n xs :=
  ((h.stored s (p := ⟨p, 0, none⟩) hp v0).stored s (p := ⟨p, 1, none⟩) hp v1).stored s (p := ⟨p, 2, none⟩) hp v2
/-- solve.Add, where what it makes is known. -/
theorem solAdd_eq (w : World) (B K : Int) (wB : wfI B) (wK : wfI K) (A : Option Addr) (n c : Nat) (rows : List Rw) (h : Sl 2 eRw w (LT w.heap.size) A n rows) (hm : n ≤ maxLen) (r : Rw) (A1 A2 : Option Addr) (n1 c1 n2 c2 : Nat)
    (ha : Sl 1 eBool w (LT w.heap.size) A1 n1 r.has) (hd : Sl 1 eByte w (LT w.heap.size) A2 n2 r.data) (b k : Int) (rows' : List Rw) (m : Bool) (er : Int) (E : sysAdd ⟨B, K, rows⟩ r = (⟨b, k, rows'⟩, m, er)) :
    Calls Try.prog 15 #[.agg #[.int .i64 B, .int .i64 K, .slice A n c], .agg #[.slice A1 n1 c1, .slice A2 n2 c2]] w fun e w' => ∃ A n c, e = .returned (.tuple #[.agg #[.int .i64 b, .int .i64 k, .slice A n c], .bool m, .int .i64 er]) ∧ (n ≤ 24 ∧ n ≤ c ∧ c ≤ maxLen) ∧ Sl 2 eRw w' (NW w.heap.size w'.heap.size) A n rows' ∧ Fr w w' :=
  (solAdd_any w B K wB wK A n c rows h hm r A1 A2 n1 c1 n2 c2 ha hd).mono fun e w' h => by
    rw [E] at h
    exact h
/-- solve.Known, where it is a system. -/
theorem solKnown_eq (w : World) (B K : Int) (A : Option Addr) (n c : Nat) (rows : List Rw) (h : Sl 2 eRw w (LT w.heap.size) A n rows) (h0 : sysCheck B K rows = 0) :
    Calls Try.prog 16 #[.agg #[.int .i64 B, .int .i64 K, .slice A n c]] w fun e w' => ∃ g m, e = .returned (.tuple #[.slice (some ⟨g, 0, none⟩) m m, .int .i64 0]) ∧ (m : Int) = B ∧ m ≤ 24 ∧ Sl 1 eNB w' (LT w'.heap.size) (some ⟨g, 0, none⟩) m (knownF m rows) ∧ Fr w w' := by
  obtain ⟨⟨b1, b2⟩, ⟨k1, k2⟩, _, hR⟩ := sysCheck_ok h0
  obtain ⟨b, rfl⟩ := Int.eq_ofNat_of_zero_le (show 0 ≤ B by omega)
  obtain ⟨k, rfl⟩ := Int.eq_ofNat_of_zero_le (show 0 ≤ K by omega)
  refine (solKnown_ok w b k A n c rows h (by omega) (by omega) (rowsOk_sys hR)).mono ?_
  rintro e w' ⟨g, rfl, ho, hf⟩
  refine ⟨g, b, rfl, rfl, by omega, ?_, hf⟩
  obtain ⟨A', c', e1, _, _, hs⟩ := ho.sl sNB (by decide)
  injection e1 with e1 e2 e3
  subst e1
  rw [← e2] at hs
  exact hs

set_option maxRecDepth 100000 in
set_option maxHeartbeats 4000000 in
theorem solved_any (w : World) : Calls Try.prog 18 #[] w fun e w' => e = .returned (.bool true) ∧ Fr w w' := by
  have E1 : Hid (sysNew 2 1 = (⟨2, 1, []⟩, 0)) := by unfold Hid; decide +kernel
  have E2 : Hid (sysAdd ⟨2, 1, []⟩ ⟨[true, true], [7]⟩ = (⟨2, 1, [⟨[true, true], [7]⟩]⟩, true, 0)) := by unfold Hid; decide +kernel
  have E3 : Hid (sysAdd ⟨2, 1, [⟨[true, true], [7]⟩]⟩ ⟨[false, true], [3]⟩ = (⟨2, 1, [⟨[true, false], [4]⟩, ⟨[false, true], [3]⟩]⟩, true, 0)) := by unfold Hid; decide +kernel
  have E4 : Hid (sysAdd ⟨2, 1, [⟨[true, false], [4]⟩, ⟨[false, true], [3]⟩]⟩ ⟨[true, false], [4]⟩ = (⟨2, 1, [⟨[true, false], [4]⟩, ⟨[false, true], [3]⟩]⟩, false, 0)) := by unfold Hid; decide +kernel
  have E5 : Hid (sysAdd ⟨2, 1, [⟨[true, false], [4]⟩, ⟨[false, true], [3]⟩]⟩ ⟨[true, false], [5]⟩ = (⟨0, 0, []⟩, false, 9)) := by unfold Hid; decide +kernel
  have E6 : Hid (sysCheck 2 1 [⟨[true, false], [4]⟩, ⟨[false, true], [3]⟩] = 0) := by unfold Hid; decide +kernel
  have E7 : Hid (knownF 2 [⟨[true, false], [4]⟩, ⟨[false, true], [3]⟩] = [[4], [3]]) := by unfold Hid; decide +kernel
  have w2 : wfI 2 := by decide
  have w1 : wfI 1 := by decide
  go_enter Try.func18, Try.ntmps18
  go_wp2_with fail
  refine (solNew_any _ 2 1 w2 w1).mono ?_
  rw [E1.out]
  rintro e wA ⟨rfl, hf⟩
  have HFA : Hid (Fr w wA) := hf
  clear hf
  obtain ⟨p, hp⟩ : ∃ p, p = wA.heap.size := ⟨_, rfl⟩
  go_upto_region 2 with fail
  obtain ⟨W0, hW0⟩ : ∃ W0, W0 = wA.alloc (.cells #[.int .i64 2, .int .i64 1, .slice none 0 0] 24) := ⟨_, rfl⟩
  have HP : Hid (W0.heap[p]? = some (.cells #[.int .i64 2, .int .i64 1, .slice none 0 0] 24 (0, 0))) := by rw [hW0]; exact heap_new hp
  have HW : Hid (Fr wA W0) := by rw [hW0]; exact frAlloc _ _
  rw [← hW0, ← hp]
  have hpe := Lib.hid hp
  have hb := HP.out
  (obtain ⟨x0, x1, x2⟩ := box3_ hb)
  have hbl := (Array.getElem?_eq_some_iff.1 hb).1
  clear hW0 hp hb
  go_wp2_with fail
  refine (solAdd_eq _ 2 1 w2 w1 _ _ _ [] Sl.nil (Nat.zero_le _) ⟨[true, true], [7]⟩ _ _ _ _ _ _ ?_ ?_ _ _ _ _ _ E2.out).mono ?_
  · apply Sl.litBools (hn := rfl)
    · (repeat' (with_reducible (first | (refine heap_new ?_; (first | (simp; done) | rfl); done) | refine heap_dn ?_ | refine heap_d ?_ | refine heap_old ?_)))
    · (simp [LT] <;> omega)
    · rfl
  · apply Sl.litBytes (hn := rfl)
    · (repeat' (with_reducible (first | (refine heap_new ?_; (first | (simp; done) | rfl); done) | refine heap_dn ?_ | refine heap_d ?_ | refine heap_old ?_)))
    · (simp [LT] <;> omega)
    · rfl
  rintro e v1 ⟨A1, n1, c1, rfl, ⟨hn1, hc1, hm1⟩, hs1, hf⟩
  have hb : v1.heap[p]? = some (.cells #[.int .i64 2, .int .i64 1, .slice none 0 0] 24 (0, 0)) := blk_go (by (repeat' (with_reducible (first | (refine heap_new ?_; (first | (simp; done) | rfl); done) | refine heap_dn ?_ | refine heap_d ?_ | refine heap_old ?_))); exact HP.out) hf
  have hF : Fr wA v1 := HW.out.trans (Fr.trans (by (repeat' (first | exact Below.refl _ _ | refine below_drewN ?_ _ | refine Below.drew ?_ | refine frA ?_ _))) hf)
  (obtain ⟨x0, x1, x2⟩ := box3_ hb)
  have y0 := blk_free (i := 0) hb
  have y1 := blk_free (i := 1) hb
  have y2 := blk_free (i := 2) hb
  have hbl := (Array.getElem?_eq_some_iff.1 hb).1
  have hl1 : n1 ≤ maxLen := by unfold maxLen; omega
  obtain ⟨W1, hW1⟩ : ∃ W1, W1 = ((v1.setCell ⟨p, 0, none⟩ (.int .i64 2)).setCell ⟨p, 1, none⟩ (.int .i64 1)).setCell ⟨p, 2, none⟩ (.slice A1 n1 c1) := ⟨_, rfl⟩
  have HP1 : Hid (W1.heap[p]? = some (.cells #[.int .i64 2, .int .i64 1, .slice A1 n1 c1] 24 (0, 0))) := by rw [hW1]; exact stor3_ hb
  have HW1 : Hid (Fr wA W1) := by rw [hW1]; exact bel3_ hF (by rw [hpe.out]; exact Nat.le_refl _)
  have HS1 : Hid (Sl 2 eRw W1 (LT W1.heap.size) A1 n1 [⟨[true, true], [7]⟩]) := by
    rw [hW1]
    have q := hs1.stored3 sRw (p := p) (v0 := .int .i64 2) (v1 := .int .i64 1) (v2 := .slice A1 n1 c1) (by have := (Array.getElem?_eq_some_iff.1 HP.out).1; simp; omega)
    exact q.more sRw fun b hb => by
      have := hb.2
      simpa [LT, size_setCell] using this
  go_upto_region 3 with fail
  rw [← hW1]
  clear hF hf hb hW1 hs1 x0 x1 x2 y0 y1 y2 HP HW
  have HP := HP1
  have HW := HW1
  clear HP1 HW1
  have hb := HP.out
  (obtain ⟨x0, x1, x2⟩ := box3_ hb)
  have hbl := (Array.getElem?_eq_some_iff.1 hb).1
  clear hb
  go_wp2_with fail
  refine (solAdd_eq _ 2 1 w2 w1 _ _ _ [⟨[true, true], [7]⟩] (HS1.out.go sRw (by (repeat' (first | exact Below.refl _ _ | refine below_drewN ?_ _ | refine Below.drew ?_ | refine frA ?_ _)))) hl1 ⟨[false, true], [3]⟩ _ _ _ _ _ _ ?_ ?_ _ _ _ _ _ E3.out).mono ?_
  · apply Sl.litBools (hn := rfl)
    · (repeat' (with_reducible (first | (refine heap_new ?_; (first | (simp; done) | rfl); done) | refine heap_dn ?_ | refine heap_d ?_ | refine heap_old ?_)))
    · (simp [LT] <;> omega)
    · rfl
  · apply Sl.litBytes (hn := rfl)
    · (repeat' (with_reducible (first | (refine heap_new ?_; (first | (simp; done) | rfl); done) | refine heap_dn ?_ | refine heap_d ?_ | refine heap_old ?_)))
    · (simp [LT] <;> omega)
    · rfl
  rintro e v2 ⟨A2, n2, c2, rfl, ⟨hn2, hc2, hm2⟩, hs2, hf⟩
  have hb : v2.heap[p]? = some (.cells #[.int .i64 2, .int .i64 1, .slice A1 n1 c1] 24 (0, 0)) := blk_go (by (repeat' (with_reducible (first | (refine heap_new ?_; (first | (simp; done) | rfl); done) | refine heap_dn ?_ | refine heap_d ?_ | refine heap_old ?_))); exact HP.out) hf
  have hF : Fr wA v2 := HW.out.trans (Fr.trans (by (repeat' (first | exact Below.refl _ _ | refine below_drewN ?_ _ | refine Below.drew ?_ | refine frA ?_ _))) hf)
  (obtain ⟨x0, x1, x2⟩ := box3_ hb)
  have y0 := blk_free (i := 0) hb
  have y1 := blk_free (i := 1) hb
  have y2 := blk_free (i := 2) hb
  have hbl := (Array.getElem?_eq_some_iff.1 hb).1
  have hl2 : n2 ≤ maxLen := by unfold maxLen; omega
  obtain ⟨W2, hW2⟩ : ∃ W2, W2 = ((v2.setCell ⟨p, 0, none⟩ (.int .i64 2)).setCell ⟨p, 1, none⟩ (.int .i64 1)).setCell ⟨p, 2, none⟩ (.slice A2 n2 c2) := ⟨_, rfl⟩
  have HP2 : Hid (W2.heap[p]? = some (.cells #[.int .i64 2, .int .i64 1, .slice A2 n2 c2] 24 (0, 0))) := by rw [hW2]; exact stor3_ hb
  have HW2 : Hid (Fr wA W2) := by rw [hW2]; exact bel3_ hF (by rw [hpe.out]; exact Nat.le_refl _)
  have HS2 : Hid (Sl 2 eRw W2 (LT W2.heap.size) A2 n2 [⟨[true, false], [4]⟩, ⟨[false, true], [3]⟩]) := by
    rw [hW2]
    have q := hs2.stored3 sRw (p := p) (v0 := .int .i64 2) (v1 := .int .i64 1) (v2 := .slice A2 n2 c2) (by have := (Array.getElem?_eq_some_iff.1 HP.out).1; simp; omega)
    exact q.more sRw fun b hb => by
      have := hb.2
      simpa [LT, size_setCell] using this
  go_upto_region 4 with fail
  rw [← hW2]
  clear hF hf hb hW2 hs2 x0 x1 x2 y0 y1 y2 HP HW
  have HP := HP2
  have HW := HW2
  clear HP2 HW2
  have hb := HP.out
  (obtain ⟨x0, x1, x2⟩ := box3_ hb)
  have hbl := (Array.getElem?_eq_some_iff.1 hb).1
  clear hb
  go_wp2_with fail
  have HWA := HW
  have HW2 : Hid (Fr W2 W2) := Below.refl _ _
  refine (solAdd_eq _ 2 1 w2 w1 _ _ _ [⟨[true, false], [4]⟩, ⟨[false, true], [3]⟩] ((HS2.out.go sRw HW2.out).go sRw (by (repeat' (first | exact Below.refl _ _ | refine below_drewN ?_ _ | refine Below.drew ?_ | refine frA ?_ _)))) hl2 ⟨[true, false], [4]⟩ _ _ _ _ _ _ ?_ ?_ _ _ _ _ _ E4.out).mono ?_
  · apply Sl.litBools (hn := rfl)
    · (repeat' (with_reducible (first | (refine heap_new ?_; (first | (simp; done) | rfl); done) | refine heap_dn ?_ | refine heap_d ?_ | refine heap_old ?_)))
    · (simp [LT] <;> omega)
    · rfl
  · apply Sl.litBytes (hn := rfl)
    · (repeat' (with_reducible (first | (refine heap_new ?_; (first | (simp; done) | rfl); done) | refine heap_dn ?_ | refine heap_d ?_ | refine heap_old ?_)))
    · (simp [LT] <;> omega)
    · rfl
  rintro e v3 ⟨A3, n3, c3, rfl, ⟨hn3, hc3, hm3⟩, hs3, hf⟩
  have HP3 : Hid (v3.heap[p]? = some (.cells #[.int .i64 2, .int .i64 1, .slice A2 n2 c2] 24 (0, 0))) := blk_go (by (repeat' (with_reducible (first | (refine heap_new ?_; (first | (simp; done) | rfl); done) | refine heap_dn ?_ | refine heap_d ?_ | refine heap_old ?_))); exact HP.out) hf
  have hF : Fr W2 v3 := HW2.out.trans (Fr.trans (by (repeat' (first | exact Below.refl _ _ | refine below_drewN ?_ _ | refine Below.drew ?_ | refine frA ?_ _))) hf)
  have hb := HP3.out
  (obtain ⟨x0, x1, x2⟩ := box3_ hb)
  have hbl := (Array.getElem?_eq_some_iff.1 hb).1
  have HW2 := Lib.hid hF
  have HP := HP3
  clear hF hf hb hs3 HP3
  go_wp2_with fail
  refine (solAdd_eq _ 2 1 w2 w1 _ _ _ [⟨[true, false], [4]⟩, ⟨[false, true], [3]⟩] ((HS2.out.go sRw HW2.out).go sRw (by (repeat' (first | exact Below.refl _ _ | refine below_drewN ?_ _ | refine Below.drew ?_ | refine frA ?_ _)))) hl2 ⟨[true, false], [5]⟩ _ _ _ _ _ _ ?_ ?_ _ _ _ _ _ E5.out).mono ?_
  · apply Sl.litBools (hn := rfl)
    · (repeat' (with_reducible (first | (refine heap_new ?_; (first | (simp; done) | rfl); done) | refine heap_dn ?_ | refine heap_d ?_ | refine heap_old ?_)))
    · (simp [LT] <;> omega)
    · rfl
  · apply Sl.litBytes (hn := rfl)
    · (repeat' (with_reducible (first | (refine heap_new ?_; (first | (simp; done) | rfl); done) | refine heap_dn ?_ | refine heap_d ?_ | refine heap_old ?_)))
    · (simp [LT] <;> omega)
    · rfl
  rintro e v4 ⟨A4, n4, c4, rfl, ⟨hn4, hc4, hm4⟩, hs4, hf⟩
  have HP4 : Hid (v4.heap[p]? = some (.cells #[.int .i64 2, .int .i64 1, .slice A2 n2 c2] 24 (0, 0))) := blk_go (by (repeat' (with_reducible (first | (refine heap_new ?_; (first | (simp; done) | rfl); done) | refine heap_dn ?_ | refine heap_d ?_ | refine heap_old ?_))); exact HP.out) hf
  have hF : Fr W2 v4 := HW2.out.trans (Fr.trans (by (repeat' (first | exact Below.refl _ _ | refine below_drewN ?_ _ | refine Below.drew ?_ | refine frA ?_ _))) hf)
  have hb := HP4.out
  (obtain ⟨x0, x1, x2⟩ := box3_ hb)
  have hbl := (Array.getElem?_eq_some_iff.1 hb).1
  have HW2 := Lib.hid hF
  have HP := HP4
  clear hF hf hb hs4 HP4
  go_wp2_with fail
  refine (solKnown_eq _ 2 1 _ _ _ _ ((HS2.out.go sRw HW2.out).go sRw (by (repeat' (first | exact Below.refl _ _ | refine below_drewN ?_ _ | refine Below.drew ?_ | refine frA ?_ _)))) E6.out).mono ?_
  rintro e v5 ⟨g, m, rfl, hm5, _, hs5, hf⟩
  obtain rfl : m = 2 := by omega
  rw [E7.out] at hs5
  have HF5 : Hid (Fr W2 v5) := HW2.out.trans (Fr.trans (by (repeat' (first | exact Below.refl _ _ | refine below_drewN ?_ _ | refine Below.drew ?_ | refine frA ?_ _))) hf)
  obtain ⟨ad, e5, hE⟩ := hs5.els (by decide)
  injection e5 with e5
  subst e5
  have hq := hs5.nb
  obtain ⟨ad2, e6, hE2⟩ := hq.els (by decide)
  injection e6 with e6
  subst e6
  obtain ⟨B1, m1, d1, l1, k1, k2, k3, k4⟩ := hE2.block (k := 0) (by decide)
  obtain ⟨B2, m2, d2, l2, j1, j2, j3, j4⟩ := hE2.block (k := 1) (by decide)
  obtain rfl : [4] = l1 := by simpa using k1
  obtain rfl : [3] = l2 := by simpa using j1
  obtain rfl : m1 = 1 := k4.1.symm
  obtain rfl : m2 = 1 := j4.1.symm
  have k2 : v5.cell? ⟨g, 0, none⟩ = some (.slice B1 1 d1) := by simpa [Addr.add] using k2
  have j2 : v5.cell? ⟨g, 1, none⟩ = some (.slice B2 1 d2) := by simpa [Addr.add] using j2
  have hg5 := World.block_lt_of_cell? v5 _ k2
  (have K4 := Lib.hid k4; clear k4; have J4 := Lib.hid j4; clear j4)
  clear hs5 hE hq hE2 k1 j1 k3 j3 hf hm5
  go_wp2_with fail
  refine (equalBlock_any _ _ Any _ _ _ _ _ _ [4] [4] (K4.out.go sByte (by (repeat' (first | exact Below.refl _ _ | refine below_drewN ?_ _ | refine Below.drew ?_ | refine frA ?_ _)))) ?_ (by decide)).mono ?_
  · apply Sl.litBytes (hS := trivial) (hn := rfl)
    · (repeat' (with_reducible (first | (refine heap_new ?_; (first | (simp; done) | rfl); done) | refine heap_dn ?_ | refine heap_d ?_ | refine heap_old ?_)))
    · rfl
  rintro e v6 ⟨rfl, m6, rfl⟩
  go_wp2_with fail
  refine (equalBlock_any _ _ Any _ _ _ _ _ _ [3] [3] (J4.out.go sByte (by (repeat' (first | exact Below.refl _ _ | refine below_drewN ?_ _ | refine Below.drew ?_ | refine frA ?_ _)))) ?_ (by decide)).mono ?_
  · apply Sl.litBytes (hS := trivial) (hn := rfl)
    · (repeat' (with_reducible (first | (refine heap_new ?_; (first | (simp; done) | rfl); done) | refine heap_dn ?_ | refine heap_d ?_ | refine heap_old ?_)))
    · rfl
  rintro e v7 ⟨rfl, m7, rfl⟩
  go_wp2_with fail
  go_ret
  exact ⟨rfl, HFA.out.trans (HWA.out.trans (HF5.out.trans (by (repeat' (first | exact Below.refl _ _ | refine below_drewN ?_ _ | refine Below.drew ?_ | refine frA ?_ _)))))⟩
end Go.Proofs.Ytnfjghldcopaaaa
