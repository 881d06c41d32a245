/- keep.share. No condition. -/
import Derived.Test.YtmiaplgfbphfmaaGreatDoorMPGB
import Derived.Test.YtmiaplgfbphfmaaGreatDoorMPGE
set_option linter.unusedSimpArgs false
set_option linter.unusedVariables false
namespace Go.Proofs.YtmiaplgfbphfmaaGreatDoor
open Go.RowKit
attribute [local irreducible] wpList

set_option maxRecDepth 100000 in
set_option maxHeartbeats 16000000 in
theorem share_any (w : World) (T : Nat → Prop) (base g cap : Nat) (xs : List Kp) (i : Nat) (x : Kp) (A : Option Addr) (n c : Nat) (vS vT : Value) (h : Foc0 T w base g cap xs i x A n c vS vT) (me time seq : Int) (Ap : Option Addr) (np cp : Nat) (r : Rc) (B : Option Addr) (nb cb : Nat) (B2 : Option Addr) (nb2 cb2 : Nat) (hk : r.kind = 4 ∨ r.kind = 5 ∨ r.kind = 6) (hr : (0 ≤ r.place ∧ r.place < 4) ∧ (0 ≤ r.try_ ∧ r.try_ ≤ 9999) ∧ (0 ≤ r.n ∧ r.n ≤ 1000000)) (hx : (0 ≤ x.shares ∧ x.shares ≤ 64) ∧ (0 ≤ x.try_ ∧ x.try_ ≤ 9999)) :
    Calls Tryz.prog 114 #[.agg #[.int .i64 me, .slice Ap np cp, .int .i64 time, .int .i64 seq], .pointer (some ⟨g, i * 16, none⟩), .agg #[.int .i64 r.kind, .int .i64 r.place, .int .i64 r.n, .int .i64 r.try_, .int .i64 r.h.frm, .int .i64 r.h.seq, .int .i64 r.h.to, .int .i64 r.h.till, .int .i64 r.h.bytes, .int .i64 r.h.block, .int .i64 r.s.id, .slice B nb cb, .slice B2 nb2 cb2]] w (FocPost T w base g cap xs i A n c vS vT (shareF me x r)) := by
  obtain ⟨A3, c3, rfl, ⟨hc3, hm3⟩, hs3⟩ := h.foc.took.slC sTk (by decide)
  have hl40 := h.foc.l2
  obtain ⟨⟨p1, p2⟩, ⟨p3, p4⟩, p5, p6⟩ := hr
  obtain ⟨⟨s1, s2⟩, s3, s4⟩ := hx
  have E := Lib.hid (shareF.eq_1 me x r)
  obtain ⟨dl, hdl⟩ : ∃ o, o = x.delivered := ⟨_, rfl⟩
  obtain ⟨pg, hpg⟩ : ∃ o, o = x.purged := ⟨_, rfl⟩
  rw [← hdl, ← hpg] at E
  have H := Lib.hid h
  have hgl := h.foc.gl
  have HS3 := Lib.hid hs3
  have HDL := Lib.hid hdl
  have HPG := Lib.hid hpg
  clear h hdl hpg hs3
  obtain ⟨kd, hkd⟩ : ∃ k, k = r.kind := ⟨_, rfl⟩
  rw [← hkd] at hk E
  have HKD := Lib.hid hkd
  go_enter Tryz.func114, Tryz.ntmps114
  rw [← hkd]
  clear hkd
  go_upto_region 1 with fail
  obtain ⟨W1, hW1⟩ : ∃ W1, W1 = (w.alloc (.cells #[.int .i64 me, .slice Ap np cp, .int .i64 time, .int .i64 seq] 25)).alloc (.cells #[.int .i64 kd, .int .i64 r.place, .int .i64 r.n, .int .i64 r.try_, .int .i64 r.h.frm, .int .i64 r.h.seq, .int .i64 r.h.to, .int .i64 r.h.till, .int .i64 r.h.bytes, .int .i64 r.h.block, .int .i64 r.s.id, .slice B nb cb, .slice B2 nb2 cb2] 40) := ⟨_, rfl⟩
  obtain ⟨p, hp⟩ : ∃ p, p = w.heap.size := ⟨_, rfl⟩
  have hbp : W1.heap[p]? = some (.cells #[.int .i64 me, .slice Ap np cp, .int .i64 time, .int .i64 seq] 25 (0, 0)) := by rw [hW1]; exact heap_old (heap_new hp)
  have hbx : W1.heap[p + 1]? = some (.cells #[.int .i64 kd, .int .i64 r.place, .int .i64 r.n, .int .i64 r.try_, .int .i64 r.h.frm, .int .i64 r.h.seq, .int .i64 r.h.to, .int .i64 r.h.till, .int .i64 r.h.bytes, .int .i64 r.h.block, .int .i64 r.s.id, .slice B nb cb, .slice B2 nb2 cb2] 40 (0, 0)) := by rw [hW1]; exact heap_new (by rw [hp]; simp)
  have HF1 : Hid (Fr w W1) := by rw [hW1]; exact (frAlloc _ _).trans (frAlloc _ _)
  rw [← hW1, ← hp]
  have HPW : Hid (p = w.heap.size) := hp
  clear hW1 hp
  have hcl := (H.out.fr HF1.out).foc.cells
  rw [← HDL.out, ← HPG.out] at hcl
  obtain ⟨m0, m1, m2, m3, m4, m5, m6, m7, m8, m9, m10, m11, m12, m13, m14, m15⟩ := hcl
  (obtain ⟨bp0, bp1, bp2, bp3⟩ := box4_ hbp)
  (obtain ⟨bx0, bx1, bx2, bx3, bx4, bx5, bx6, bx7, bx8, bx9, bx10, bx11, bx12⟩ := box13_ hbx)
  have HBX := Lib.hid hbx
  have HBP := Lib.hid hbp
  clear hbx hbp m0 m1 m2 m3 m4 m5 m6 m7 m8 bx4 bx5 bx6 bx7 bx8 bx9 bx10 bx11 bx12 bp1 bp2 bp3
  cases hdp : (dl || pg) with
  | true =>
    have E2 : Hid (shareF me x r = (x, 7)) := E.out.trans (if_pos (by simpa using hdp))
    clear E
    revert hdp
    cases dl <;> cases pg <;> intro hdp <;> first | (exact absurd hdp (by decide)) | (clear hdp; go_wp2_with fail; go_ret; exact H.out.same HF1.out E2.out)
  | false =>
  obtain ⟨rfl, rfl⟩ : dl = false ∧ pg = false := by revert hdp; cases dl <;> cases pg <;> decide
  have E2 := Lib.hid (E.out.trans (if_neg (by simp)))
  clear E hdp
  rcases hk with rfl | rfl | rfl
  · have E3 := Lib.hid (E2.out.trans (if_pos rfl))
    have E4 := Lib.hid (E3.out.trans (giveF.eq_1 me x r))
    clear E2 E3
    by_cases h1 : r.place = me
    · have E5 := Lib.hid (E4.out.trans (if_pos h1))
      have t1 : (r.place == me) = true := by simp [h1]
      clear E4 h1
      go_wp2_with fail
      go_ret
      exact H.out.same HF1.out E5.out
    · have E5 := Lib.hid (E4.out.trans (if_neg h1))
      have t1 : (r.place == me) = false := by simp [h1]
      clear E4 h1
      have hw1 : IntKind.i64.wrap (x.try_ + 1) = x.try_ + 1 := by rw [IntKind.wrap_i64]; omega
      by_cases h2 : 0 < x.giving ∨ r.try_ ≠ x.try_ + 1
      · have E6 := Lib.hid (E5.out.trans (if_pos h2))
        clear E5
        by_cases h3 : 0 < x.giving
        · have t3 : decide (0 < x.giving) = true := by simp [h3]
          clear h2 h3
          go_upto_region 7 with fail
          go_quiet (fail)
          go_wp2_with fail
          go_ret
          exact H.out.same (by (repeat' (first | exact Below.refl _ _ | refine below_drewN ?_ _ | refine Below.drew ?_ | refine frA ?_ _ | refine Fr.trans ?_ HF1.out))) E6.out
        · have t3 : decide (0 < x.giving) = false := by simp; omega
          have t4 : (r.try_ != x.try_ + 1) = true := by simp; omega
          clear h2 h3
          go_upto_region 7 with fail
          go_quiet (fail)
          go_wp2_with fail
          go_ret
          exact H.out.same (by (repeat' (first | exact Below.refl _ _ | refine below_drewN ?_ _ | refine Below.drew ?_ | refine frA ?_ _ | refine Fr.trans ?_ HF1.out))) E6.out
      · have E6 := Lib.hid (E5.out.trans (if_neg h2))
        have t3 : decide (0 < x.giving) = false := by simp; omega
        have t4 : (r.try_ != x.try_ + 1) = false := by simp; omega
        have h2' : r.try_ = x.try_ + 1 := by omega
        have H2 := Lib.hid h2'
        clear E5 h2 h2'
        go_upto_region 7 with fail
        go_quiet (fail)
        go_upto_region 9 with fail
        obtain ⟨W2, hW2⟩ : ∃ W2, W2 = W1.drewN nq := ⟨_, rfl⟩
        have HF12 : Hid (Fr W1 W2) := by rw [hW2]; exact below_drewN (Below.refl _ _) _
        rw [← hW2]
        have HF2 : Hid (Fr w W2) := HF1.out.trans HF12.out
        clear hW2
        clear m9 m10 m11 m12 m13 m14 m15 bx0 bx1 bx2 bx3 bp0
        obtain ⟨m0, m1, m2, m3, m4, m5, m6, m7, m8, m9, m10, m11, m12, m13, m14, m15⟩ := (H.out.fr HF2.out).foc.cells
        have hbx := blk_go HBX.out HF12.out
        have hbp := blk_go HBP.out HF12.out
        (obtain ⟨bp0, bp1, bp2, bp3⟩ := box4_ hbp)
        (obtain ⟨bx0, bx1, bx2, bx3, bx4, bx5, bx6, bx7, bx8, bx9, bx10, bx11, bx12⟩ := box13_ hbx)
        clear hbx hbp m0 m1 m2 m3 m4 m5 m6 m7 m8 bx4 bx5 bx6 bx7 bx8 bx9 bx10 bx11 bx12 bp1 bp2 bp3
        have hq1 : x.shares.tdiv 2 = x.shares / 2 := Int.tdiv_eq_ediv_of_nonneg s1
        have hq2 : IntKind.i64.wrap (x.shares / 2) = x.shares / 2 := by rw [IntKind.wrap_i64]; omega
        by_cases h4 : x.shares < 2 ∨ r.n ≠ x.shares / 2
        · have E7 := Lib.hid (E6.out.trans (if_pos h4))
          clear E6
          by_cases h5 : x.shares < 2
          · have t5 : decide (x.shares < 2) = true := by simp [h5]
            clear h4 h5
            go_quiet (fail)
            go_wp2_with fail
            go_ret
            exact H.out.same (by (repeat' (first | exact Below.refl _ _ | refine below_drewN ?_ _ | refine Below.drew ?_ | refine frA ?_ _ | refine Fr.trans ?_ HF2.out))) E7.out
          · have t5 : decide (x.shares < 2) = false := by simp; omega
            have t6 : (r.n != x.shares / 2) = true := by simp; omega
            clear h4 h5
            go_quiet (fail)
            go_wp2_with fail
            go_ret
            exact H.out.same (by (repeat' (first | exact Below.refl _ _ | refine below_drewN ?_ _ | refine Below.drew ?_ | refine frA ?_ _ | refine Fr.trans ?_ HF2.out))) E7.out
        · have E7 := Lib.hid (E6.out.trans (if_neg h4))
          have t5 : decide (x.shares < 2) = false := by simp; omega
          have t6 : (r.n != x.shares / 2) = false := by simp; omega
          have hws : IntKind.i64.wrap (x.shares - r.n) = x.shares - r.n := by rw [IntKind.wrap_i64]; omega
          have H7 : Hid (0 ≤ x.shares - r.n ∧ x.shares - r.n ≤ 64) := by unfold Hid; omega
          clear E6 h4
          go_quiet (fail)
          go_upto_region 11 with fail
          obtain ⟨W3, hW3⟩ : ∃ W3, W3 = W2.drewN nq := ⟨_, rfl⟩
          have HF23 : Hid (Fr W2 W3) := by rw [hW3]; exact below_drewN (Below.refl _ _) _
          rw [← hW3]
          have HF13 : Hid (Fr W1 W3) := HF12.out.trans HF23.out
          have HF3 : Hid (Fr w W3) := HF1.out.trans HF13.out
          clear hW3
          clear m9 m10 m11 m12 m13 m14 m15 bx0 bx1 bx2 bx3 bp0
          obtain ⟨m0, m1, m2, m3, m4, m5, m6, m7, m8, m9, m10, m11, m12, m13, m14, m15⟩ := (H.out.fr HF3.out).foc.cells
          have hbx := blk_go HBX.out HF13.out
          have hbp := blk_go HBP.out HF13.out
          (obtain ⟨bp0, bp1, bp2, bp3⟩ := box4_ hbp)
          (obtain ⟨bx0, bx1, bx2, bx3, bx4, bx5, bx6, bx7, bx8, bx9, bx10, bx11, bx12⟩ := box13_ hbx)
          clear hbx hbp m0 m1 m2 m3 m4 m5 m6 m7 m8 bx4 bx5 bx6 bx7 bx8 bx9 bx10 bx11 bx12 bp1 bp2 bp3
          have gf := (H.out.fr HF3.out).foc.free (i * 16 + 9)
          have hgl3 := (H.out.fr HF3.out).foc.gl
          go_cut [] (fun wx => wx = (W3.setCell ⟨g, i * 16 + 9, none⟩ (.int .i64 (x.shares - r.n))).drew)
          case first =>
            go_region_with (fail)
            all_goals go_wp2_with fail
            all_goals go_meet
            all_goals rfl
          case rest =>
            have hwc := hcut
            obtain ⟨W4, hW4⟩ : ∃ W4, W4 = wc := ⟨_, rfl⟩
            rw [hwc] at hW4
            have wfx := H.out.foc.wf
            have w4 : wfI (x.shares - r.n) := wfI.mk (by have := H7.out; omega)
            have HX4 : Hid (Foc T W4 base g cap xs i { x with shares := x.shares - r.n } A n c vS (.slice A3 x.took.length c3)) := by
              have hf := (H.out.fr HF3.out).foc
              rw [hW4]; exact (hf.set (x' := { x with shares := x.shares - r.n }) (A' := A) (n' := n) (c' := c) (vS' := vS) (vT' := .slice A3 x.took.length c3) (t := 9) (by decide) rfl ⟨wfx.1, w4, wfx.2.2⟩ hf.cargo hf.syms hf.took hf.l1 hf.l2).fr (Below.refl _ _).drew
            have HC4 : Hid (Chg (FocS g vS (.slice A3 x.took.length c3)) w W4) := by rw [hW4]; exact (Chg.set (p := ⟨g, i * 16 + 9, none⟩) (HF3.out.chg) (.inl rfl) _).drew
            have hbx := blk_go HBX.out HF13.out
            have hcg : Chg (fun b => b = g) W3 W4 := by rw [hW4]; exact (Chg.set (S := fun b => b = g) (p := ⟨g, i * 16 + 9, none⟩) (Chg.refl _ _) rfl _).drew
            have NE : g ≠ p + 1 := by have := HPW.out; omega
            have hbx4 := hcg.blk hbx (fun e => NE e.symm)
            rw [hwc, ← hW4]
            clear hwc hcut hW4 hcg hbx m9 m10 m11 m12 m13 m14 m15 bx0 bx1 bx2 bx3 bp0 gf hgl3
            obtain ⟨m0, m1, m2, m3, m4, m5, m6, m7, m8, m9, m10, m11, m12, m13, m14, m15⟩ := HX4.out.cells
            (obtain ⟨bx0, bx1, bx2, bx3, bx4, bx5, bx6, bx7, bx8, bx9, bx10, bx11, bx12⟩ := box13_ hbx4)
            clear m0 m1 m2 m3 m4 m5 m6 m7 m8 m9 m13 m14 m15 bx0 bx4 bx5 bx6 bx7 bx8 bx9 bx10 bx11 bx12
            have gf10 := HX4.out.free (i * 16 + 10)
            have gf11 := HX4.out.free (i * 16 + 11)
            have gf12 := HX4.out.free (i * 16 + 12)
            have hgl4 := HX4.out.gl
            go_upto_region 12 with fail
            go_region_held3 (fun w' => w'.cell? ⟨p + 1, 1, none⟩ = some (.int .i64 r.place) ∧ w'.cell? ⟨p + 1, 2, none⟩ = some (.int .i64 r.n) ∧ w'.cell? ⟨p + 1, 3, none⟩ = some (.int .i64 r.try_)) (first | exact ⟨bx1, bx2, bx3⟩ | exact ⟨(set1_far NE).trans bx1, (set1_far NE).trans bx2, (set1_far NE).trans bx3⟩ | exact ⟨(set1_far NE).trans ((set1_far NE).trans bx1), (set1_far NE).trans ((set1_far NE).trans bx2), (set1_far NE).trans ((set1_far NE).trans bx3)⟩ | exact ⟨(set1_far NE).trans ((set1_far NE).trans ((set1_far NE).trans bx1)), (set1_far NE).trans ((set1_far NE).trans ((set1_far NE).trans bx2)), (set1_far NE).trans ((set1_far NE).trans ((set1_far NE).trans bx3))⟩ | go_keep) (fail)
            all_goals
              have wn : wfI r.n := wfI.mk (by omega)
              have wp : wfI r.place := wfI.mk (by omega)
              have wt : wfI r.try_ := wfI.mk (by omega)
              have h4 := HX4.out
              have h5 := h4.set (x' := { x with shares := x.shares - r.n, giving := r.n }) (A' := A) (n' := n) (c' := c) (vS' := vS) (vT' := .slice A3 x.took.length c3) (t := 10) (u := (.int .i64 r.n)) (by decide) rfl ⟨wfx.1, w4, wn, wfx.2.2.2⟩ h4.cargo h4.syms h4.took h4.l1 h4.l2
              have h6 := h5.set (x' := { x with shares := x.shares - r.n, giving := r.n, towards := r.place }) (A' := A) (n' := n) (c' := c) (vS' := vS) (vT' := .slice A3 x.took.length c3) (t := 11) (u := (.int .i64 r.place)) (by decide) rfl ⟨wfx.1, w4, wn, wp, wfx.2.2.2.2⟩ h5.cargo h5.syms h5.took h5.l1 h5.l2
              have h7 := h6.set (x' := { x with shares := x.shares - r.n, giving := r.n, towards := r.place, try_ := r.try_ }) (A' := A) (n' := n) (c' := c) (vS' := vS) (vT' := .slice A3 x.took.length c3) (t := 12) (u := (.int .i64 r.try_)) (by decide) rfl ⟨wfx.1, w4, wn, wp, wt⟩ h6.cargo h6.syms h6.took h6.l1 h6.l2
              have HX8 := Lib.hid (h7.fr (Below.refl _ _).drew)
              have HC8 : Hid (Chg (FocS g vS (.slice A3 x.took.length c3)) w (((W4.setCell ⟨g, i * 16 + 10, none⟩ (.int .i64 r.n)).setCell ⟨g, i * 16 + 11, none⟩ (.int .i64 r.place)).setCell ⟨g, i * 16 + 12, none⟩ (.int .i64 r.try_)).drew) := (Chg.set (p := ⟨g, i * 16 + 12, none⟩) (Chg.set (p := ⟨g, i * 16 + 11, none⟩) (Chg.set (p := ⟨g, i * 16 + 10, none⟩) HC4.out (.inl rfl) _) (.inl rfl) _) (.inl rfl) _).drew
              clear h4 h5 h6 h7
              go_wp2_with fail
              go_ret
              rw [E7.out]
              exact ⟨rfl, HC8.out, _, _, HX8.out⟩
  · have E3 := Lib.hid (E2.out.trans ((if_neg (by decide)).trans (if_pos rfl)))
    have E4 := Lib.hid (E3.out.trans (givenF.eq_1 x r))
    clear E2 E3
    by_cases h2 : x.giving = 0 ∨ r.try_ ≠ x.try_
    · have E5 := Lib.hid (E4.out.trans (if_pos h2))
      clear E4
      by_cases h3 : x.giving = 0
      · have t3 : (x.giving == 0) = true := by simp [h3]
        clear h2 h3
        go_upto_region 14 with fail
        go_quiet (fail)
        go_wp2_with fail
        go_ret
        exact H.out.same (by (repeat' (first | exact Below.refl _ _ | refine below_drewN ?_ _ | refine Below.drew ?_ | refine frA ?_ _ | refine Fr.trans ?_ HF1.out))) E5.out
      · have t3 : (x.giving == 0) = false := by simp [h3]
        have t4 : (r.try_ != x.try_) = true := by simp; omega
        clear h2 h3
        go_upto_region 14 with fail
        go_quiet (fail)
        go_wp2_with fail
        go_ret
        exact H.out.same (by (repeat' (first | exact Below.refl _ _ | refine below_drewN ?_ _ | refine Below.drew ?_ | refine frA ?_ _ | refine Fr.trans ?_ HF1.out))) E5.out
    · have E5 := Lib.hid (E4.out.trans (if_neg h2))
      have t3 : (x.giving == 0) = false := by simp; omega
      have t4 : (r.try_ != x.try_) = false := by simp; omega
      clear E4 h2
      go_upto_region 14 with fail
      go_quiet (fail)
      go_upto_region 16 with fail
      obtain ⟨W2, hW2⟩ : ∃ W2, W2 = W1.drewN nq := ⟨_, rfl⟩
      have HF12 : Hid (Fr W1 W2) := by rw [hW2]; exact below_drewN (Below.refl _ _) _
      rw [← hW2]
      have HF2 : Hid (Fr w W2) := HF1.out.trans HF12.out
      clear hW2
      clear m9 m10 m11 m12 m13 m14 m15 bx0 bx1 bx2 bx3 bp0
      obtain ⟨m0, m1, m2, m3, m4, m5, m6, m7, m8, m9, m10, m11, m12, m13, m14, m15⟩ := (H.out.fr HF2.out).foc.cells
      have hbx := blk_go HBX.out HF12.out
      have hbp := blk_go HBP.out HF12.out
      (obtain ⟨bp0, bp1, bp2, bp3⟩ := box4_ hbp)
      (obtain ⟨bx0, bx1, bx2, bx3, bx4, bx5, bx6, bx7, bx8, bx9, bx10, bx11, bx12⟩ := box13_ hbx)
      clear hbx hbp m0 m1 m2 m3 m4 m5 m6 m7 m8 bx4 bx5 bx6 bx7 bx8 bx9 bx10 bx11 bx12 bp1 bp2 bp3
      have h4 := (H.out.fr HF2.out).foc
      have gf10 := h4.free (i * 16 + 10)
      have gf11 := h4.free (i * 16 + 11)
      have hgl4 := h4.gl
      have w0 : wfI 0 := wfI.mk (by decide)
      have h5 := h4.set (x' := { x with giving := 0 }) (A' := A) (n' := n) (c' := c) (vS' := vS) (vT' := .slice A3 x.took.length c3) (t := 10) (u := (.int .i64 0)) (by decide) rfl ⟨h4.wf.1, h4.wf.2.1, w0, h4.wf.2.2.2⟩ h4.cargo h4.syms h4.took h4.l1 h4.l2
      have h6 := h5.set (x' := { x with giving := 0, towards := 0 }) (A' := A) (n' := n) (c' := c) (vS' := vS) (vT' := .slice A3 x.took.length c3) (t := 11) (u := (.int .i64 0)) (by decide) rfl ⟨h5.wf.1, h5.wf.2.1, w0, w0, h5.wf.2.2.2.2⟩ h5.cargo h5.syms h5.took h5.l1 h5.l2
      have HX8 := Lib.hid h6
      have HC8 : Hid (Chg (FocS g vS (.slice A3 x.took.length c3)) w ((W2.setCell ⟨g, i * 16 + 10, none⟩ (.int .i64 0)).setCell ⟨g, i * 16 + 11, none⟩ (.int .i64 0))) := Chg.set (p := ⟨g, i * 16 + 11, none⟩) (Chg.set (p := ⟨g, i * 16 + 10, none⟩) HF2.out.chg (.inl rfl) _) (.inl rfl) _
      clear h4 h5 h6
      go_wp2_with fail
      go_ret
      rw [E5.out]
      exact ⟨rfl, HC8.out, _, _, HX8.out⟩
  · have E3 := Lib.hid (E2.out.trans ((if_neg (by decide)).trans (if_neg (by decide))))
    have E4 := Lib.hid (E3.out.trans (takeF.eq_1 x r))
    clear E2 E3
    have hw1 : IntKind.i64.wrap (64 - x.shares) = 64 - x.shares := by rw [IntKind.wrap_i64]; omega
    go_upto_region 19 with fail
    obtain ⟨W2, hW2⟩ : ∃ W2, W2 = W1.alloc (.cells #[.int .i64 r.place, .int .i64 r.try_] 131) := ⟨_, rfl⟩
    obtain ⟨q5, hq5⟩ : ∃ q, q = W1.heap.size := ⟨_, rfl⟩
    have HQ2 : Hid (W2.heap[q5]? = some (.cells #[.int .i64 r.place, .int .i64 r.try_] 131 (0, 0))) := by rw [hW2]; exact heap_new hq5
    have HF12 : Hid (Fr W1 W2) := by rw [hW2]; exact frAlloc _ _
    rw [← hW2, ← hq5]
    have HF2 : Hid (Fr w W2) := HF1.out.trans HF12.out
    clear hW2 hq5
    clear m9 m10 m11 m12 m13 m14 m15 bx0 bx1 bx2 bx3 bp0
    obtain ⟨m0, m1, m2, m3, m4, m5, m6, m7, m8, m9, m10, m11, m12, m13, m14, m15⟩ := (H.out.fr HF2.out).foc.cells
    have hbx := blk_go HBX.out HF12.out
    have hbp := blk_go HBP.out HF12.out
    (obtain ⟨bp0, bp1, bp2, bp3⟩ := box4_ hbp)
    (obtain ⟨bx0, bx1, bx2, bx3, bx4, bx5, bx6, bx7, bx8, bx9, bx10, bx11, bx12⟩ := box13_ hbx)
    clear hbx hbp m0 m1 m2 m3 m4 m5 m6 m7 m8 bx4 bx5 bx6 bx7 bx8 bx9 bx10 bx11 bx12 bp1 bp2 bp3
    by_cases h2 : r.try_ < 1 ∨ r.n < 1 ∨ 64 - x.shares < r.n
    · have E5 := Lib.hid (E4.out.trans (if_pos h2))
      clear E4
      by_cases h3 : r.try_ < 1
      · have t3 : decide (r.try_ < 1) = true := by simp [h3]
        clear h2 h3
        go_quiet (fail)
        go_wp2_with fail
        go_ret
        exact H.out.same (by (repeat' (first | exact Below.refl _ _ | refine below_drewN ?_ _ | refine Below.drew ?_ | refine frA ?_ _ | refine Fr.trans ?_ HF2.out))) E5.out
      · have t3 : decide (r.try_ < 1) = false := by simp; omega
        by_cases h4 : r.n < 1
        · have t4 : decide (r.n < 1) = true := by simp [h4]
          clear h2 h3 h4
          go_quiet (fail)
          go_wp2_with fail
          go_ret
          exact H.out.same (by (repeat' (first | exact Below.refl _ _ | refine below_drewN ?_ _ | refine Below.drew ?_ | refine frA ?_ _ | refine Fr.trans ?_ HF2.out))) E5.out
        · have t4 : decide (r.n < 1) = false := by simp; omega
          have t5 : decide (64 - x.shares < r.n) = true := by simp; omega
          clear h2 h3 h4
          go_quiet (fail)
          go_wp2_with fail
          go_ret
          exact H.out.same (by (repeat' (first | exact Below.refl _ _ | refine below_drewN ?_ _ | refine Below.drew ?_ | refine frA ?_ _ | refine Fr.trans ?_ HF2.out))) E5.out
    · have E5 := Lib.hid (E4.out.trans (if_neg h2))
      have t3 : decide (r.try_ < 1) = false := by simp; omega
      have t4 : decide (r.n < 1) = false := by simp; omega
      have t5 : decide (64 - x.shares < r.n) = false := by simp; omega
      have h2' : 1 ≤ r.n ∧ r.n ≤ 64 - x.shares := by omega
      have H2 := Lib.hid h2'
      clear E4 h2 h2'
      go_quiet (fail)
      go_upto_region 21 with fail
      obtain ⟨W3, hW3⟩ : ∃ W3, W3 = W2.drewN nq := ⟨_, rfl⟩
      have HF23 : Hid (Fr W2 W3) := by rw [hW3]; exact below_drewN (Below.refl _ _) _
      rw [← hW3]
      have HF13 : Hid (Fr W1 W3) := HF12.out.trans HF23.out
      have HF3 : Hid (Fr w W3) := HF1.out.trans HF13.out
      have HQ3 := Lib.hid (blk_go HQ2.out HF23.out)
      clear hW3 t3 t4 t5
      clear m9 m10 m11 m12 m13 m14 m15 bx0 bx1 bx2 bx3 bp0
      obtain ⟨m0, m1, m2, m3, m4, m5, m6, m7, m8, m9, m10, m11, m12, m13, m14, m15⟩ := (H.out.fr HF3.out).foc.cells
      have hbx := blk_go HBX.out HF13.out
      have hbp := blk_go HBP.out HF13.out
      (obtain ⟨bp0, bp1, bp2, bp3⟩ := box4_ hbp)
      (obtain ⟨bx0, bx1, bx2, bx3, bx4, bx5, bx6, bx7, bx8, bx9, bx10, bx11, bx12⟩ := box13_ hbx)
      clear hbx hbp m0 m1 m2 m3 m4 m5 m6 m7 m8 bx4 bx5 bx6 bx7 bx8 bx9 bx10 bx11 bx12 bp1 bp2 bp3
      obtain ⟨q, hq⟩ : ∃ q, q = x.took.any (fun o => decide (o = ⟨r.place, r.try_⟩)) := ⟨_, rfl⟩
      rw [← hq] at E5
      have CT : Hid (∀ W, Fr W3 W → Calls Tryz.prog 96 #[.slice A3 x.took.length c3, .agg #[.int .i64 r.place, .int .i64 r.try_]] W fun e w' => e = .returned (.bool q) ∧ Fr W w') := fun W hf => by
        rw [hq]; exact containsTk_any W A3 _ c3 x.took ⟨r.place, r.try_⟩ (HS3.out.go sTk (HF3.out.trans hf)) (by unfold maxLen; omega)
      have hqx := HQ3.out
      (obtain ⟨k0, k1⟩ := box2_ hqx)
      have hSC : Hid (∀ w', Fr W3 w' → w'.cell? ⟨g, i * 16 + 13, none⟩ = some (.slice A3 x.took.length c3) ∧ w'.cell? ⟨q5, 0, none⟩ = some (.int .i64 r.place) ∧ w'.cell? ⟨q5, 1, none⟩ = some (.int .i64 r.try_)) := fun w' hf => ⟨(hf.cell (World.block_lt_of_cell? W3 _ m13)).trans m13, (hf.cell (World.block_lt_of_cell? W3 _ k0)).trans k0, (hf.cell (World.block_lt_of_cell? W3 _ k1)).trans k1⟩
      clear hq hqx m9 m10 m11 m12 m13 m14 m15 bx0 bx1 bx2 bx3 bp0 k0 k1
      go_upto_region 21 with fail
      refine held_begin (n := 7) (bs := #[false, false, false, false, false, false, false]) rfl rfl (by kernel_rfl) (S := fun w' => w'.cell? ⟨g, i * 16 + 13, none⟩ = some (.slice A3 x.took.length c3) ∧ w'.cell? ⟨q5, 0, none⟩ = some (.int .i64 r.place) ∧ w'.cell? ⟨q5, 1, none⟩ = some (.int .i64 r.try_)) (hSC.out _ (Below.refl _ _).drew) (fun hHeld => ?_)
      ((first | refine held_sk (i := 0) ?_ | refine held_tk (i := 0) ?_); (first | refine held_sk (i := 1) ?_ | refine held_tk (i := 1) ?_); (first | refine held_sk (i := 2) ?_ | refine held_tk (i := 2) ?_); (first | refine held_sk (i := 3) ?_ | refine held_tk (i := 3) ?_); (first | refine held_sk (i := 4) ?_ | refine held_tk (i := 4) ?_))
      refine held_one (i := 5) rfl (by kernel_rfl) (fun K hK => ?_)
      go_simp
      go_at_call 96
      (with_reducible refine (CT.out _ (Below.refl _ _).drew).mono ?_)
      rintro e w6 ⟨rfl, hf6⟩
      have HF36 : Hid (Fr W3 w6) := Fr.trans (Below.refl _ _).drew hf6
      clear hf6
      (refine held_back hK (a' := ?hA1) (l' := ?hL1) ?ha1 ?hl1 (hSC.out _ HF36.out) (fun hHeld => ?hh1); (case ha1 => first | with_reducible rfl | (simp only [Act.put, hq1, hq2, hq3, Option.isNone, Bool.not_true, Bool.not_false]; (try with_reducible rfl))); (case hl1 => (simp only [Act.put, hq1, hq2, hq3, Option.isNone, Bool.not_true, Bool.not_false]; (try with_reducible rfl))); clear hK K)
      ((first | refine held_sk (i := 6) ?_ | refine held_tk (i := 6) ?_))
      refine wpAnyH_done (by kernel_rfl) ?_ _
      have HF16 : Hid (Fr W1 w6) := HF13.out.trans HF36.out
      have HF6 : Hid (Fr w w6) := HF1.out.trans HF16.out
      have HQ6 := Lib.hid (blk_go HQ3.out HF36.out)
      obtain ⟨m0, m1, m2, m3, m4, m5, m6, m7, m8, m9, m10, m11, m12, m13, m14, m15⟩ := (H.out.fr HF6.out).foc.cells
      have hbx := blk_go HBX.out HF16.out
      (obtain ⟨bx0, bx1, bx2, bx3, bx4, bx5, bx6, bx7, bx8, bx9, bx10, bx11, bx12⟩ := box13_ hbx)
      have hqx := HQ6.out
      (obtain ⟨k0, k1⟩ := box2_ hqx)
      clear hbx hqx m0 m1 m2 m3 m4 m5 m6 m7 m8 m10 m11 m12 m14 m15 bx0 bx1 bx3 bx4 bx5 bx6 bx7 bx8 bx9 bx10 bx11 bx12 CT hSC hHeld
      cases q with
      | true =>
        have E6 := Lib.hid (E5.out.trans (if_pos rfl))
        clear E5
        go_wp2_with fail
        go_ret
        exact H.out.same HF6.out E6.out
      | false =>
      have E6 := Lib.hid (E5.out.trans (if_neg (by simp)))
      clear E5
      by_cases h40 : x.took.length = 40
      · have E7 := Lib.hid (E6.out.trans (if_pos h40))
        have t7 : ((x.took.length : Int) == 40) = true := by simp [h40]
        clear E6 h40
        go_wp2_with fail
        go_ret
        exact H.out.same HF6.out E7.out
      · have E7 := Lib.hid (E6.out.trans (if_neg h40))
        have t7 : ((x.took.length : Int) == 40) = false := by simp; omega
        have H40 : Hid (x.took.length + 1 ≤ 40) := by unfold Hid; omega
        clear E6 h40
        go_upto_region 25 with fail
        have hLm : x.took.length + 1 ≤ maxLen := by have := H40.out; unfold maxLen; omega
        have hLs : (x.took.length + 1) * 16 ≤ lim := by have := H40.out; unfold lim; omega
        have hONE : ∀ u ∈ [Value.int .i64 r.place, Value.int .i64 r.try_], u.oneCell' = true := by simp [Value.oneCell']
        have HX6 := Lib.hid (H.out.fr HF6.out)
        have hBB : base ≤ w6.heap.size := Nat.le_trans HX6.out.foc.hbg (Nat.le_of_lt HX6.out.foc.gl)
        have hgl6 := HX6.out.foc.gl
        have hql6 : q5 < w6.heap.size := (Array.getElem?_eq_some_iff.1 HQ6.out).1
        have wp : wfI r.place := wfI.mk (by omega)
        have wt : wfI r.try_ := wfI.mk (by omega)
        have HYY : Hid (eTk w6 (fun b => b < w6.heap.size ∧ (Value.slice A3 x.took.length c3).ownBlock ≠ some b) (fun j => [Value.int .i64 r.place, Value.int .i64 r.try_][j]?) ⟨r.place, r.try_⟩) := eTk_iff.2 ⟨⟨rfl, rfl⟩, wp, wt⟩
        clear hl40 hc3 hm3
        go_region_law ((with_reducible refine stepPick (n := 150) rfl ?_); (refine step_app2o (by rfl) (.tmp 147) (.tmp 149) 94 (by rfl) base 131 (.agg #[.int .i64 0, .int .i64 0]) 16 Tryz.underlying94 infoTaken rfl (by decide) sTk w6 (by (repeat' (first | exact Below.refl _ _ | refine below_drewN ?_ _ | refine Below.drew ?_ | refine frA ?_ _))) (.slice A3 x.took.length c3) x.took (by rfl) HX6.out.foc.took _ [.int .i64 r.place, .int .i64 r.try_] 131 (0, 0) (by rfl) (by first | exact heap_new rfl | exact heap_new (by simp)) rfl hONE ⟨r.place, r.try_⟩ HYY.out hLm hLs hBB ?_); intro v9 w9 HO9 HC9 HL9; obtain ⟨A9, n9, c9, rfl⟩ := own_isSl HO9.out; obtain ⟨cs9, rest9, hg9, _⟩ := HX6.out.foc.blk; have hg9' := HC9.out.blk hg9 (fun e => HX6.out.foc.took.notBlk hg9 (by decide) e rfl); have y9 := blk_free (i := i * 16 + 13) hg9'; have hgl9 := (Array.getElem?_eq_some_iff.1 hg9').1; have m9 := (HC9.out.cell (p := ⟨g, i * 16 + 13, none⟩) hgl6 (fun e => HX6.out.foc.took.notBlk hg9 (by decide) e rfl)).trans m13; clear hg9 hg9')
        all_goals
          have hX := HX6.out.foc.appT (fun b hb => (HX6.out.av b hb).2) HX6.out.ne (chg_grown HC9.out) HO9.out (by rw [List.length_append]; exact H40.out)
          have hC : Chg (FocS g vS (.slice A3 x.took.length c3)) w (w9.setCell ⟨g, i * 16 + 13, none⟩ (.slice A9 n9 c9)) := Chg.set (p := ⟨g, i * 16 + 13, none⟩) (Chg.tr2 (HF6.out.chg) (T := FocS g vS (.slice A3 x.took.length c3)) (HC9.out.more fun b hb => .inr (.inr hb)) fun b hb => .inl hb) (.inl rfl) _
          have NE : g ≠ p + 1 := by have := HPW.out; omega
          have hbx := blk_go HBX.out HF16.out
          have hbx9 := HC9.out.blk hbx (fun e => HX6.out.foc.took.notBlk hbx (by decide) e rfl)
          obtain ⟨W10, hW10⟩ : ∃ W10, W10 = w9.setCell ⟨g, i * 16 + 13, none⟩ (.slice A9 n9 c9) := ⟨_, rfl⟩
          have hcg : Chg (fun b => b = g) w9 W10 := by rw [hW10]; exact Chg.set (S := fun b => b = g) (p := ⟨g, i * 16 + 13, none⟩) (Chg.refl _ _) rfl _
          have hbx10 := hcg.blk hbx9 (fun e => NE e.symm)
          rw [← hW10] at hX hC ⊢
          clear hW10 hbx hbx9 hcg m9 m13 y9 bx2 k0 k1
          obtain ⟨m0, m1, m2, m3, m4, m5, m6, m7, m8, m9, m10, m11, m12, m13, m14, m15⟩ := hX.cells
          (obtain ⟨bx0, bx1, bx2, bx3, bx4, bx5, bx6, bx7, bx8, bx9, bx10, bx11, bx12⟩ := box13_ hbx10)
          have gf := hX.free (i * 16 + 9)
          have hgl10 := hX.gl
          have hws : IntKind.i64.wrap (x.shares + r.n) = x.shares + r.n := by have := H2.out; rw [IntKind.wrap_i64]; omega
          have wsn : wfI (x.shares + r.n) := wfI.mk (by have := H2.out; omega)
          have h5 := (hX.set (x' := { x with took := x.took ++ [⟨r.place, r.try_⟩], shares := x.shares + r.n }) (A' := A) (n' := n) (c' := c) (vS' := vS) (vT' := .slice A9 n9 c9) (t := 9) (u := .int .i64 (x.shares + r.n)) (by decide) rfl ⟨hX.wf.1, wsn, hX.wf.2.2⟩ hX.cargo hX.syms hX.took hX.l1 hX.l2).fr (Below.refl _ _).drew
          have HX11 := Lib.hid h5
          have HC11 : Hid (Chg (FocS g vS (.slice A3 x.took.length c3)) w (W10.setCell ⟨g, i * 16 + 9, none⟩ (.int .i64 (x.shares + r.n))).drew) := (Chg.set (p := ⟨g, i * 16 + 9, none⟩) hC (.inl rfl) _).drew
          clear h5 hX hC hbx10 m0 m1 m2 m3 m4 m5 m6 m7 m8 m10 m11 m12 m13 m14 m15 bx0 bx1 bx3 bx4 bx5 bx6 bx7 bx8 bx9 bx10 bx11 bx12 HX6 HYY
          go_upto_region 26 with fail
          go_region_with (fail)
          all_goals
            go_wp2_with fail
            go_ret
            rw [E7.out]
            exact ⟨rfl, HC11.out, _, _, HX11.out⟩
end Go.Proofs.YtmiaplgfbphfmaaGreatDoor
