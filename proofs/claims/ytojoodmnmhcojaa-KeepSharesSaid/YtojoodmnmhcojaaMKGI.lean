/- 'KeepShares' answers true for every input, and leaves its arguments as they were. No condition. -/
import Derived.Test.YtojoodmnmhcojaaMKGH
import Derived.Test.YtojoodmnmhcojaaMKGE
import Derived.Test.YtojoodmnmhcojaaOpen
import Derived.Test.YtojoodmnmhcojaaMKGA
set_option linter.unusedSimpArgs false
set_option linter.unusedVariables false
namespace Go.Proofs.Ytojoodmnmhcojaa
open Go.RowKit
attribute [local irreducible] wpList

theorem wasOf_range {p : Pc} (hp : PcOk p) (h : Hd) : 0 ≤ wasOf p h ∧ wasOf p h ≤ 64 := by
  unfold wasOf
  split
  · rename_i i hi
    obtain ⟨k, hk, _⟩ := findAt_some hi
    rw [hk]
    exact (keptCheck_iff.1 (hp.kept k (List.mem_of_getElem? hk))).shares
  · exact ⟨by decide, by decide⟩
theorem findF_was (p : Pc) (h : Hd) : (findF p.keep h.frm h.seq = -1 ∧ wasOf p h = 0) ∨ ∃ (i : Nat) (x : Kp), findF p.keep h.frm h.seq = (i : Int) ∧ p.keep[i]? = some x ∧ wasOf p h = x.shares := by
  unfold findF wasOf
  cases hf : findAt h.frm h.seq p.keep with
  | none => exact .inl ⟨rfl, rfl⟩
  | some i =>
    obtain ⟨k, hk, _⟩ := findAt_some hf
    exact .inr ⟨i, k, rfl, hk, by simp [hk]⟩

set_option maxRecDepth 100000 in
set_option maxHeartbeats 16000000 in
theorem keepShares_law (w : World) (p : Pc) (A : Option Addr) (n c : Nat) (h : Sl 16 eKp w (LT w.heap.size) A n p.keep) (hn : n ≤ maxLen) (r : Rc) (B : Option Addr) (nb cb : Nat) (B2 : Option Addr) (nb2 cb2 : Nat) (hwr : r.wf) (hbd : Byt w (LT w.heap.size) B nb cb r.s.data) (hbc : Byt w (LT w.heap.size) B2 nb2 cb2 r.cargo) :
    Calls Try.prog 4 #[.agg #[.int .i64 p.me, .slice A n c, .int .i64 p.time, .int .i64 p.seq], .agg #[.int .i64 r.kind, .int .i64 r.place, .int .i64 r.n, .int .i64 r.try_, .int .i64 r.h.frm, .int .i64 r.h.seq, .int .i64 r.h.to, .int .i64 r.h.till, .int .i64 r.h.bytes, .int .i64 r.h.block, .int .i64 r.s.id, .slice B nb cb, .slice B2 nb2 cb2]] w fun e w' => e = .returned (.bool true) ∧ Fr w w' := by
  have hl : p.keep.length = n := h.1
  obtain ⟨X, hX⟩ : ∃ X, X = nextF p r := ⟨_, rfl⟩
  have NX : Hid (∀ W, Fr w W → Calls Try.prog 7 #[.agg #[.int .i64 p.me, .slice A n c, .int .i64 p.time, .int .i64 p.seq], .agg #[.int .i64 r.kind, .int .i64 r.place, .int .i64 r.n, .int .i64 r.try_, .int .i64 r.h.frm, .int .i64 r.h.seq, .int .i64 r.h.to, .int .i64 r.h.till, .int .i64 r.h.bytes, .int .i64 r.h.block, .int .i64 r.s.id, .slice B nb cb, .slice B2 nb2 cb2]] W (NxPost W X)) := fun W hf => by
    rw [hX]; exact keepNext_any W p A n c (h.go sKp hf) hn r B nb cb B2 nb2 cb2 hwr (hbd.go hf) (hbc.go hf)
  have HX := Lib.hid hX
  have H := Lib.hid h
  clear h hX hbd hbc
  go_enter Try.func4, Try.ntmps4
  go_upto_region 1 with fail
  obtain ⟨W1, hW1⟩ : ∃ W1, W1 = (w.alloc (.cells #[.int .i64 p.me, .slice A n c, .int .i64 p.time, .int .i64 p.seq] 25)).alloc (.cells #[.int .i64 r.kind, .int .i64 r.place, .int .i64 r.n, .int .i64 r.try_, .int .i64 r.h.frm, .int .i64 r.h.seq, .int .i64 r.h.to, .int .i64 r.h.till, .int .i64 r.h.bytes, .int .i64 r.h.block, .int .i64 r.s.id, .slice B nb cb, .slice B2 nb2 cb2] 40) := ⟨_, rfl⟩
  obtain ⟨q, hq⟩ : ∃ q, q = w.heap.size := ⟨_, rfl⟩
  obtain ⟨z, hz⟩ : ∃ z, z = w.heap.size + 1 := ⟨_, rfl⟩
  have HP1 : Hid (W1.heap[q]? = some (.cells #[.int .i64 p.me, .slice A n c, .int .i64 p.time, .int .i64 p.seq] 25 (0, 0))) := by rw [hW1]; exact heap_old (heap_new hq)
  have HR1 : Hid (W1.heap[z]? = some (.cells #[.int .i64 r.kind, .int .i64 r.place, .int .i64 r.n, .int .i64 r.try_, .int .i64 r.h.frm, .int .i64 r.h.seq, .int .i64 r.h.to, .int .i64 r.h.till, .int .i64 r.h.bytes, .int .i64 r.h.block, .int .i64 r.s.id, .slice B nb cb, .slice B2 nb2 cb2] 40 (0, 0))) := by rw [hW1]; exact heap_new (by rw [hz]; simp)
  have HF1 : Hid (Fr w W1) := by rw [hW1]; exact (frAlloc _ _).trans (frAlloc _ _)
  rw [← hW1, ← hz, ← hq]
  clear hW1 hz hq
  have hpx := HP1.out
  have hrx := HR1.out
  (obtain ⟨bp0, bp1, bp2, bp3⟩ := box4_ hpx)
  (obtain ⟨bx0, bx1, bx2, bx3, bx4, bx5, bx6, bx7, bx8, bx9, bx10, bx11, bx12⟩ := box13_ hrx)
  clear hpx hrx
  go_wp2_with fail
  (with_reducible refine (NX.out _ HF1.out).mono ?_)
  rintro e w2 ⟨A2, n2, c2, rfl, hb2, hs2, hf2⟩
  obtain ⟨xe, hxe⟩ : ∃ xe, xe = X.2 := ⟨_, rfl⟩
  rw [← hxe]
  have HF2 : Hid (Fr w w2) := HF1.out.trans hf2
  have HP2 := Lib.hid (blk_go HP1.out hf2)
  have HR2 := Lib.hid (blk_go HR1.out hf2)
  have HS2 : Hid (Sl 16 eKp w2 (LT w2.heap.size) A2 n2 X.1.keep) := hs2.more sKp fun b hb => hb.2
  have HXE := Lib.hid hxe
  have HB2 := Lib.hid hb2
  clear hb2 hs2 hf2 hxe NX HP1 HR1 HF1 bp0 bp1 bp2 bp3 bx0 bx1 bx2 bx3 bx4 bx5 bx6 bx7 bx8 bx9 bx10 bx11 bx12
  go_upto_region 2 with fail
  obtain ⟨W3, hW3⟩ : ∃ W3, W3 = w2.alloc (.cells #[.int .i64 X.1.me, .slice A2 n2 c2, .int .i64 X.1.time, .int .i64 X.1.seq] 25) := ⟨_, rfl⟩
  obtain ⟨y, hy⟩ : ∃ y, y = w2.heap.size := ⟨_, rfl⟩
  have HY3 : Hid (W3.heap[y]? = some (.cells #[.int .i64 X.1.me, .slice A2 n2 c2, .int .i64 X.1.time, .int .i64 X.1.seq] 25 (0, 0))) := by rw [hW3]; exact heap_new hy
  have hf3 : Fr w2 W3 := by rw [hW3]; exact frAlloc _ _
  have HF3 : Hid (Fr w W3) := HF2.out.trans hf3
  have HP3 := Lib.hid (blk_go HP2.out hf3)
  have HR3 := Lib.hid (blk_go HR2.out hf3)
  have HS3 := Lib.hid (HS2.out.go sKp hf3)
  rw [← hW3, ← hy]
  clear hW3 hy hf3 HF2 HP2 HR2 HS2
  by_cases h1 : xe = 0
  case neg =>
    have t1 : (xe != 0) = true := by simp [h1]
    clear h1
    go_wp2_with fail
    refine (keepHeld_any _).mono ?_
    rintro e w4 ⟨rfl, hf4⟩
    have HF4 : Hid (Fr w w4) := HF3.out.trans hf4
    clear hf4
    go_wp2_with fail
    refine (keepHeld_any _).mono ?_
    rintro e w5 ⟨rfl, hf5⟩
    have HF5 : Hid (Fr w w5) := HF4.out.trans hf5
    clear hf5
    go_wp2_with fail
    go_ret
    exact ⟨rfl, HF5.out⟩
  case pos =>
  have t1 : (xe != 0) = false := by simp [h1]
  have hnx : nextF p r = (X.1, 0) := by rw [← HX.out]; exact Prod.ext rfl (HXE.out.symm.trans h1)
  obtain ⟨hpo, hrc, hst⟩ := nextF_ok hnx
  have hro := recCheck_ok hrc
  have hstp := stepF_ok hpo hro hst
  have HST : Hid (∀ y ∈ X.1.keep, _) := fun y hy => hstp.shares hpo hro hy
  have hx12 : X.1.keep.length ≤ 12 := (hstp.ok hpo hro).1.len
  have hrn : 0 ≤ r.n ∧ r.n ≤ 1000000 := hro.n
  have HPO := Lib.hid hpo
  clear h1 hnx hrc hst hstp hpo hro
  go_wp2_with fail
  refine (keepHeld_any _).mono ?_
  rintro e w4 ⟨rfl, hf4⟩
  have HF4 : Hid (Fr w w4) := HF3.out.trans hf4
  have HP4 := Lib.hid (blk_go HP3.out hf4)
  have HR4 := Lib.hid (blk_go HR3.out hf4)
  have HY4 := Lib.hid (blk_go HY3.out hf4)
  have HS4 := Lib.hid (HS3.out.go sKp hf4)
  clear hf4 HF3 HP3 HR3 HY3 HS3
  have hyx := HY4.out
  (obtain ⟨by0, by1, by2, by3⟩ := box4_ hyx)
  clear hyx
  go_wp2_with fail
  clear by0 by1 by2 by3
  have hn2 : n2 ≤ 12 := by rw [← HS4.out.1]; exact hx12
  clear hx12
  go_loopw [28] (fun s28 wr => ∃ k : Nat, k ≤ n2 ∧ s28 = .int .i64 k ∧ Hid (Fr w4 wr)) (fun i _ => n2 - (intOf i).toNat)
  case atStart => exact ⟨0, Nat.zero_le _, rfl, Below.refl _ _⟩
  case round =>
    obtain ⟨k, hk, rfl, HF⟩ := hrel
    by_cases hlt : k < n2
    · obtain ⟨ad, rfl, hE⟩ := (HS4.out.go sKp HF.out).els (by omega)
      obtain ⟨v, hv, hr⟩ := hE.row hlt
      obtain ⟨A1, n1, c1, A3, n3, c3, A5, n5, c5, ⟨m0, m1, m2, m3, m4, m5, m6, m7, m8, m9, m10, m11, m12, m13, m14, m15⟩, _⟩ := eKp_at hr
      have HSY := Lib.hid (HST.out v (List.mem_of_getElem? hv))
      have hW := wasOf_range HPO.out v.h
      have HFW := Lib.hid (findF_was p v.h)
      obtain ⟨W0, hW0⟩ : ∃ W0, W0 = wasOf p v.h := ⟨_, rfl⟩
      obtain ⟨F0, hF0⟩ : ∃ F0, F0 = findF p.keep v.h.frm v.h.seq := ⟨_, rfl⟩
      rw [← hW0] at HSY hW
      rw [← hW0, ← hF0] at HFW
      have HCF : Hid (∀ W, Fr w W → Calls Try.prog 9 #[.agg #[.int .i64 p.me, .slice A n c, .int .i64 p.time, .int .i64 p.seq], .int .i64 v.h.frm, .int .i64 v.h.seq] W fun e w' => e = .returned (.int .i64 F0) ∧ Fr W w') := fun W hf => by
        rw [hF0]; exact keepFind_any W p.me p.time p.seq A n c p.keep v.h.frm v.h.seq (H.out.go sKp hf) hn
      clear hr hE hv hW0 hF0
      go_upto_region 7 with fail
      obtain ⟨W5, hW5⟩ : ∃ W5, W5 = wr.alloc (.cells #[.int .i64 v.h.frm, .int .i64 v.h.seq, .int .i64 v.h.to, .int .i64 v.h.till, .int .i64 v.h.bytes, .int .i64 v.h.block, .bool v.own, .slice A1 n1 c1, .slice A3 n3 c3, .int .i64 v.shares, .int .i64 v.giving, .int .i64 v.towards, .int .i64 v.try_, .slice A5 n5 c5, .bool v.delivered, .bool v.purged] 46) := ⟨_, rfl⟩
      obtain ⟨q5, hq5⟩ : ∃ q5, q5 = wr.heap.size := ⟨_, rfl⟩
      have hQ5 : W5.heap[q5]? = some (.cells #[.int .i64 v.h.frm, .int .i64 v.h.seq, .int .i64 v.h.to, .int .i64 v.h.till, .int .i64 v.h.bytes, .int .i64 v.h.block, .bool v.own, .slice A1 n1 c1, .slice A3 n3 c3, .int .i64 v.shares, .int .i64 v.giving, .int .i64 v.towards, .int .i64 v.try_, .slice A5 n5 c5, .bool v.delivered, .bool v.purged] 46 (0, 0)) := by rw [hW5]; exact heap_new hq5
      have hF5 : Fr wr W5 := by rw [hW5]; exact frAlloc _ _
      have hX5 := blk_go (blk_go HP4.out HF.out) hF5
      have HF5 := Lib.hid hF5
      rw [← hW5, ← hq5]
      clear hW5 hq5 hF5 m0 m1 m2 m3 m4 m5 m6 m7 m8 m9 m10 m11 m12 m13 m14 m15
      (obtain ⟨bp0, bp1, bp2, bp3⟩ := box4_ hX5)
      (obtain ⟨bq0, bq1, bq2, bq3, bq4, bq5, bq6, bq7, bq8, bq9, bq10, bq11, bq12, bq13, bq14, bq15⟩ := box16_ hQ5)
      (have HX5 := Lib.hid hX5; clear hX5; have HQ5 := Lib.hid hQ5; clear hQ5)
      go_wp2_with fail
      (with_reducible refine (HCF.out _ ((HF4.out.trans HF.out).trans HF5.out)).mono ?_)
      rintro e w6 ⟨rfl, hf6⟩
      have hX6 := blk_go HX5.out hf6
      have hQ6 := blk_go HQ5.out hf6
      have hR6 := blk_go (blk_go (blk_go HR4.out HF.out) HF5.out) hf6
      have HF6 : Hid (Fr wr w6) := HF5.out.trans hf6
      clear bp0 bp1 bp2 bp3 bq0 bq1 bq2 bq3 bq4 bq5 bq6 bq7 bq8 bq9 bq10 bq11 bq12 bq13 bq14 bq15 HX5 HQ5 hf6 HF5 HCF
      go_upto_if 41 with fail
      go_cut [10] (fun s10 wx => s10 = .int .i64 W0 ∧ wx = w6)
      case first =>
        rcases HFW.out with ⟨rfl, rfl⟩ | ⟨i, x, rfl, hx, rfl⟩
        · clear hX6 hQ6 hR6
          go_wp2_with fail
          go_meet
          exact ⟨rfl, rfl⟩
        · have hp6 := H.out.go sKp ((HF4.out.trans HF.out).trans HF6.out)
          have hin : i < n := by rw [← hl]; exact (List.getElem?_eq_some_iff.1 hx).1
          obtain ⟨ad', rfl, hE⟩ := hp6.els (by omega)
          obtain ⟨x', hx', hr⟩ := hE.row hin
          rw [hx] at hx'
          injection hx' with hx'
          subst hx'
          obtain ⟨_, _, _, _, _, _, _, _, _, ⟨_, _, _, _, _, _, _, _, _, m9, _⟩, _⟩ := eKp_at hr
          clear hr hE hx hp6 hQ6 hR6
          (obtain ⟨bp0, bp1, bp2, bp3⟩ := box4_ hX6)
          have hi1 : (i : Int) < (n : Int) := by omega
          clear hX6
          go_wp2_with fail
          go_meet
          exact ⟨rfl, rfl⟩
      case rest =>
        obtain ⟨rfl, hwc⟩ := hcut
        rw [hwc]
        clear hwc hX6 HFW
        (obtain ⟨bq0, bq1, bq2, bq3, bq4, bq5, bq6, bq7, bq8, bq9, bq10, bq11, bq12, bq13, bq14, bq15⟩ := box16_ hQ6)
        (obtain ⟨bx0, bx1, bx2, bx3, bx4, bx5, bx6, bx7, bx8, bx9, bx10, bx11, bx12⟩ := box13_ hR6)
        clear hQ6 hR6
        rcases HSY.out with ⟨e1, e2, hways⟩ | ⟨e1, e2⟩
        · have hq := fun V => (eqHd r.h v.h V).trans (by rw [decide_eq_true e1])
          have HE1 := Lib.hid e1
          clear e1 HSY
          clear HST HPO
          have hw1 : IntKind.i64.wrap (W0 + r.n) = W0 + r.n := by rw [IntKind.wrap_i64]; omega
          have hw2 : IntKind.i64.wrap (W0 - r.n) = W0 - r.n := by rw [IntKind.wrap_i64]; omega
          rcases hways with ⟨h1 | h1, h2⟩ | ⟨h1, h2, h3⟩ | ⟨h1 | h1, h2⟩ | ⟨h1 | h1, h2⟩
          ·
            rw [h1] at bx0
            rw [h2] at bq9
            clear h1 h2
            go_wp2_with fail
            go_roundw
            case rel => exact ⟨k + 1, by omega, by go_num, by (repeat' (first | exact Below.refl _ _ | refine below_drewN ?_ _ | refine Below.drew ?_ | refine frA ?_ _ | refine Fr.trans ?_ HF6.out | refine Fr.trans ?_ HF.out))⟩
            case measure => simp [intOf]; omega
          ·
            rw [h1] at bx0
            rw [h2] at bq9
            clear h1 h2
            go_wp2_with fail
            go_roundw
            case rel => exact ⟨k + 1, by omega, by go_num, by (repeat' (first | exact Below.refl _ _ | refine below_drewN ?_ _ | refine Below.drew ?_ | refine frA ?_ _ | refine Fr.trans ?_ HF6.out | refine Fr.trans ?_ HF.out))⟩
            case measure => simp [intOf]; omega
          · rw [h3] at bq10
            clear h3
            rw [h1] at bx0
            rw [h2] at bq9
            clear h1 h2
            go_wp2_with fail
            go_roundw
            case rel => exact ⟨k + 1, by omega, by go_num, by (repeat' (first | exact Below.refl _ _ | refine below_drewN ?_ _ | refine Below.drew ?_ | refine frA ?_ _ | refine Fr.trans ?_ HF6.out | refine Fr.trans ?_ HF.out))⟩
            case measure => simp [intOf]; omega
          ·
            rw [h1] at bx0
            rw [h2] at bq9
            clear h1 h2
            go_wp2_with fail
            go_roundw
            case rel => exact ⟨k + 1, by omega, by go_num, by (repeat' (first | exact Below.refl _ _ | refine below_drewN ?_ _ | refine Below.drew ?_ | refine frA ?_ _ | refine Fr.trans ?_ HF6.out | refine Fr.trans ?_ HF.out))⟩
            case measure => simp [intOf]; omega
          ·
            rw [h1] at bx0
            rw [h2] at bq9
            clear h1 h2
            go_wp2_with fail
            go_roundw
            case rel => exact ⟨k + 1, by omega, by go_num, by (repeat' (first | exact Below.refl _ _ | refine below_drewN ?_ _ | refine Below.drew ?_ | refine frA ?_ _ | refine Fr.trans ?_ HF6.out | refine Fr.trans ?_ HF.out))⟩
            case measure => simp [intOf]; omega
          ·
            rw [h1] at bx0
            rw [h2] at bq9
            clear h1 h2
            go_wp2_with fail
            go_roundw
            case rel => exact ⟨k + 1, by omega, by go_num, by (repeat' (first | exact Below.refl _ _ | refine below_drewN ?_ _ | refine Below.drew ?_ | refine frA ?_ _ | refine Fr.trans ?_ HF6.out | refine Fr.trans ?_ HF.out))⟩
            case measure => simp [intOf]; omega
          ·
            rw [h1] at bx0
            rw [h2] at bq9
            clear h1 h2
            go_wp2_with fail
            go_roundw
            case rel => exact ⟨k + 1, by omega, by go_num, by (repeat' (first | exact Below.refl _ _ | refine below_drewN ?_ _ | refine Below.drew ?_ | refine frA ?_ _ | refine Fr.trans ?_ HF6.out | refine Fr.trans ?_ HF.out))⟩
            case measure => simp [intOf]; omega
        · clear HST HPO HSY
          rw [e2] at bq9
          clear e2
          by_cases h1 : r.h = v.h
          · have hq := fun V => (eqHd r.h v.h V).trans (by rw [decide_eq_true h1])
            have h8 : r.kind = 8 := Decidable.byContradiction fun h => e1 ⟨h1, h⟩
            rw [h8] at bx0
            have HE1 := Lib.hid h1
            clear e1 h8 h1
            go_wp2_with fail
            go_roundw
            case rel => exact ⟨k + 1, by omega, by go_num, by (repeat' (first | exact Below.refl _ _ | refine below_drewN ?_ _ | refine Below.drew ?_ | refine frA ?_ _ | refine Fr.trans ?_ HF6.out | refine Fr.trans ?_ HF.out))⟩
            case measure => simp [intOf]; omega
          · have hq := fun V => (eqHd r.h v.h V).trans (by rw [decide_eq_false h1])
            have HE1 := Lib.hid h1
            clear e1 h1
            go_wp2_with fail
            go_roundw
            case rel => exact ⟨k + 1, by omega, by go_num, by (repeat' (first | exact Below.refl _ _ | refine below_drewN ?_ _ | refine Below.drew ?_ | refine frA ?_ _ | refine Fr.trans ?_ HF6.out | refine Fr.trans ?_ HF.out))⟩
            case measure => simp [intOf]; omega
    · go_wp2_with fail
      go_ret
      exact ⟨rfl, HF4.out.trans HF.out⟩
theorem keepSharesLaw.keepShares_any (w : World) (p : Pc) (A : Option Addr) (n c : Nat) (h : Sl 16 eKp w (LT w.heap.size) A n p.keep) (hn : n ≤ maxLen ∧ (n * 168 ≤ lim ∧ n ≤ c ∧ c ≤ maxLen) ∧ wfI p.me ∧ wfI p.time ∧ wfI p.seq) (r : Rc) (B : Option Addr) (nb cb : Nat) (B2 : Option Addr) (nb2 cb2 : Nat) (hwr : r.wf) (hbd : Byt w (LT w.heap.size) B nb cb r.s.data) (hbc : Byt w (LT w.heap.size) B2 nb2 cb2 r.cargo) :
    Calls Try.prog 4 #[.agg #[.int .i64 p.me, .slice A n c, .int .i64 p.time, .int .i64 p.seq], .agg #[.int .i64 r.kind, .int .i64 r.place, .int .i64 r.n, .int .i64 r.try_, .int .i64 r.h.frm, .int .i64 r.h.seq, .int .i64 r.h.to, .int .i64 r.h.till, .int .i64 r.h.bytes, .int .i64 r.h.block, .int .i64 r.s.id, .slice B nb cb, .slice B2 nb2 cb2]] w fun e w' => e = .returned (.bool true) ∧ Fr w w' :=
  keepShares_law w p A n c h hn.1 r B nb cb B2 nb2 cb2 hwr hbd hbc
end Go.Proofs.Ytojoodmnmhcojaa
namespace Go.Proofs.Ytojoodmnmhcojaa.keepSharesLaw
open Go.ChangeShapes Go.WideShapes Go.ChangeAt Go.RowKit

set_option maxRecDepth 100000 in
theorem lifted (os : Os) (started : os.Started) (H : Type) (enc : TypeId × Value → H) :
    ReturnsInHanded {} Try.checked os 4 .any (Rows.keepSharesSpec.pre6 enc Try.prog Try.f4 Rows.keepSharesRow.domain false) (Rows.keepSharesSpec.post enc Try.prog Try.f4 false true false false) := by
  refine returnsInHanded_of_change_sized (C := Try.checked) own started (by kernel_rfl) Try.func4
    (ChangeSpec.witness6 (enc := enc) (C := Try.checked) false ⟨#[], #[.agg #[.int .i64 0, .slice none 0 0, .int .i64 0, .int .i64 0], .agg #[.int .i64 0, .int .i64 0, .int .i64 0, .int .i64 0, .int .i64 0, .int .i64 0, .int .i64 0, .int .i64 0, .int .i64 0, .int .i64 0, .int .i64 0, .slice none 0 0, .slice none 0 0]], []⟩ 8 (by kernel_rfl) (by kernel_rfl) (by kernel_rfl) (by kernel_rfl)) ?_
  intro W base args ds gs before hval0 hW hcnd hsz0 _
  have hval : ∀ (j : Nat) t v, Try.f4.params[j]? = some t → args[j]? = some v → Value.okWide Try.prog W .any base t v := hval0
  have hsz : (DataW.weightsEach Try.prog (Try.f4.params.toList ++ Rows.keepSharesSpec.plain.varTypes Try.prog) (ds ++ gs)).all (· ≤ reachBytes) = true := hsz0
  have hW' := hW
  obtain ⟨p, q, hA0, hV, rfl, hfz, hnd⟩ := hW
  have hA : DataW.TrodAll enc Try.prog W 0 (fun _ => true) true Try.f4.params.toList args.toList ds p := hA0
  rw [Try.params4] at hA hval hsz
  obtain ⟨v0, vs0, d0, ds0, p0, q0, hargs, rfl, rfl, h0, r0⟩ := trodAll_cons hA
  obtain ⟨v1, vs1, d1, ds1, p1, q1, rfl, rfl, rfl, h1, r1⟩ := trodAll_cons r0
  obtain ⟨rfl, rfl, rfl⟩ := trodAll_nil r1
  obtain rfl : args = #[v0, v1] := by cases args; simp_all
  obtain ⟨rfl, rfl⟩ := trodVars_none hV
  have k0 := h0
  have lt0 : ∀ x ∈ p0, x.block < W.heap.size := by obtain ⟨m, hm⟩ := k0; exact DataW.trod_lt m _ _ _ hm
  have s0 : ∀ n ∈ d0.weights Try.prog 25, n ≤ reachBytes := fun n hn => of_decide_eq_true (List.all_eq_true.1 hsz n (DataW.weights_mem_each (j := 0) rfl rfl n hn))
  obtain ⟨m0, A0, n0, c0, rfl, hs0, hl0⟩ := openPlace (hval 0 25 v0 rfl rfl) h0 s0
  have k1 := h1
  have lt1 : ∀ x ∈ p1, x.block < W.heap.size := by obtain ⟨m, hm⟩ := k1; exact DataW.trod_lt m _ _ _ hm
  have s1 : ∀ n ∈ d1.weights Try.prog 40, n ≤ reachBytes := fun n hn => of_decide_eq_true (List.all_eq_true.1 hsz n (DataW.weights_mem_each (j := 1) rfl rfl n hn))
  obtain ⟨m1, A1, n1, c1, B1, f1, g1, rfl, wf1, by1, bz1⟩ := openRec (hval 1 40 v1 rfl rfl) h1 s1
  clear hA0 hval0
  refine (keepShares_any W m0 A0 n0 c0 hs0 hl0 m1 A1 n1 c1 B1 f1 g1 wf1 by1 bz1).mono fun e W' ⟨he, bel⟩ => ?_
  subst he
  exact ⟨_, rfl, _, _, _, [], _, [], hW', trodAll_mk1 (shut_bool Try.underlying4 _), (trodAll_cons_mk (Below.trod laidOut (by kernel_rfl) (of_decide_eq_true (by kernel_rfl)) k0 bel lt0) (trodAll_cons_mk (Below.trod laidOut (by kernel_rfl) (of_decide_eq_true (by kernel_rfl)) k1 bel lt1) trodAll_mk0)), rfl, bel.frame _, fun h => by cases h⟩

/-- The statement: the law answers true for every input. -/
theorem proved : Rows.KeepSharesSaid :=
  OpenClaim.holds_of_wide 4 Try.f4 rfl rfl rfl rfl rfl rfl rfl ⟨rfl, rfl, rfl, rfl, rfl⟩ rfl rfl rfl rfl rfl (by kernel_rfl) Try.func4 (by kernel_rfl)
    (of_decide_eq_true (by kernel_rfl)) (by unfold Func.isWrapper; first | (rw [if_pos (by decide +kernel)]; kernel_rfl) | (rw [if_neg (by decide +kernel)]; exact ⟨rfl, rfl⟩))
    (fun os started H enc _ => lifted os started H enc)
#print axioms proved
end Go.Proofs.Ytojoodmnmhcojaa.keepSharesLaw
