/- keep.bundle. No condition. -/
import Derived.Test.YtmiaplgfbphfmaaGreatDoorMPGB
import Derived.Test.YtmiaplgfbphfmaaGreatDoorMPGA
import Derived.Test.YtmiaplgfbphfmaaGreatDoorMPR
import Derived.Laws.StructEq
import Derived.KernelRfl
import Derived.Test.YtmiaplgfbphfmaaGreatDoorMPQ
set_option linter.unusedSimpArgs false
set_option linter.unusedVariables false
namespace Go.Proofs.YtmiaplgfbphfmaaGreatDoor
open Go.RowKit
attribute [local irreducible] wpList

theorem placeAt_step {l : List Kp} {h : Hd} {k : Nat} {x : Kp} (hx : l[k]? = some x) (ha : aheadB x.h h = true) : ((l.drop k).takeWhile fun y => aheadB y.h h).length = 1 + ((l.drop (k + 1)).takeWhile fun y => aheadB y.h h).length := by
  rw [drop_cons hx, List.takeWhile_cons, if_pos ha, List.length_cons]; omega
theorem placeAt_stop {l : List Kp} {h : Hd} {k : Nat} {x : Kp} (hx : l[k]? = some x) (ha : aheadB x.h h = false) : ((l.drop k).takeWhile fun y => aheadB y.h h).length = 0 := by
  rw [drop_cons hx, List.takeWhile_cons, if_neg (by simp [ha])]; rfl
set_option maxRecDepth 100000 in
set_option maxHeartbeats 16000000 in
theorem send_any (w : World) (base pb : Nat) (p : Pc) (A : Option Addr) (c : Nat) (h : PlM w base pb p A c) (h12 : p.keep.length ≤ 12) (hps : 0 ≤ p.seq ∧ p.seq ≤ 50) (r : Rc) (B : Option Addr) (nb cb : Nat) (B2 : Option Addr) (nb2 cb2 : Nat) (hwh : r.h.wf) (hwn : wfI r.n) (hy : Byt w (LT w.heap.size) B2 nb2 cb2 r.cargo) (hb : base ≤ w.heap.size) :
    Calls Tryz.prog 108 #[.pointer (some ⟨pb, 0, none⟩), .agg #[.int .i64 r.kind, .int .i64 r.place, .int .i64 r.n, .int .i64 r.try_, .int .i64 r.h.frm, .int .i64 r.h.seq, .int .i64 r.h.to, .int .i64 r.h.till, .int .i64 r.h.bytes, .int .i64 r.h.block, .int .i64 r.s.id, .slice B nb cb, .slice B2 nb2 cb2]] w fun e w' => e = .returned (.int .i64 (sendF p r).2) ∧ Chg (PlS base pb) w w' ∧ ∃ A' c', PlM w' base pb (sendF p r).1 A' c' := by
  have E := Lib.hid (sendF.eq_1 p r)
  have hbb := h.blk
  have hpb := h.low
  have H := Lib.hid h
  have HYS := Lib.hid hy.2
  have HYL := Lib.hid hy.1.1
  have HYN := Lib.hid hy.2.1
  have hpl := (Array.getElem?_eq_some_iff.1 hbb).1
  go_enter Tryz.func108, Tryz.ntmps108
  go_upto_region 1 with fail
  obtain ⟨W1, hW1⟩ : ∃ W1, W1 = w.alloc (.cells #[.int .i64 r.kind, .int .i64 r.place, .int .i64 r.n, .int .i64 r.try_, .int .i64 r.h.frm, .int .i64 r.h.seq, .int .i64 r.h.to, .int .i64 r.h.till, .int .i64 r.h.bytes, .int .i64 r.h.block, .int .i64 r.s.id, .slice B nb cb, .slice B2 nb2 cb2] 40) := ⟨_, rfl⟩
  obtain ⟨q, hq⟩ : ∃ q, q = w.heap.size := ⟨_, rfl⟩
  have HQ : Hid (W1.heap[q]? = some (.cells #[.int .i64 r.kind, .int .i64 r.place, .int .i64 r.n, .int .i64 r.try_, .int .i64 r.h.frm, .int .i64 r.h.seq, .int .i64 r.h.to, .int .i64 r.h.till, .int .i64 r.h.bytes, .int .i64 r.h.block, .int .i64 r.s.id, .slice B nb cb, .slice B2 nb2 cb2] 40 (0, 0))) := by rw [hW1]; exact heap_new hq
  have HF1 : Hid (Fr w W1) := by rw [hW1]; exact frAlloc _ _
  rw [← hW1, ← hq]
  have HQW : Hid (q = w.heap.size) := hq
  clear hW1 hq h hbb hy
  have hbx := blk_go H.out.blk HF1.out
  have hqx := HQ.out
  (obtain ⟨bp0, bp1, bp2, bp3⟩ := box4_ hbx)
  (obtain ⟨bx0, bx1, bx2, bx3, bx4, bx5, bx6, bx7, bx8, bx9, bx10, bx11, bx12⟩ := box13_ hqx)
  clear hbx hqx
  have fin : ∀ k W, Fr w W → sendF p r = (p, k) → Ending.returned (.int .i64 k) = .returned (.int .i64 (sendF p r).2) ∧ Chg (PlS base pb) w W ∧ ∃ A' c', PlM W base pb (sendF p r).1 A' c' := fun k W hf e => by
    rw [e]; exact ⟨rfl, hf.chg, _, _, H.out.fr hf⟩
  have FIN := Lib.hid fin
  clear fin
  by_cases h1 : r.h.frm = p.me
  case neg =>
    have E1 := Lib.hid (E.out.trans (if_pos h1))
    have t1 : (r.h.frm != p.me) = true := by simp [h1]
    clear E h1
    go_quiet (fail)
    go_wp2_with fail
    go_ret
    exact FIN.out _ _ (by (repeat' (first | exact Below.refl _ _ | refine below_drewN ?_ _ | refine Below.drew ?_ | refine frA ?_ _ | refine Fr.trans ?_ HF1.out))) E1.out
  case pos =>
  have E1 := Lib.hid (E.out.trans (if_neg (fun e => e h1)))
  have t1 : (r.h.frm != p.me) = false := by simp [h1]
  clear E h1
  go_quiet (fail)
  obtain ⟨n1, rfl⟩ : ∃ n1, n1 = nq := ⟨_, rfl⟩
  by_cases h2 : r.h.seq ≠ p.seq ∨ r.h.till ≤ p.time
  case pos =>
    have E2 := Lib.hid (E1.out.trans (if_pos h2))
    clear E1
    by_cases h3 : r.h.seq = p.seq
    · have t2 : (r.h.seq != p.seq) = false := by simp [h3]
      have t3 : decide (r.h.till ≤ p.time) = true := by simp; omega
      clear h2 h3
      go_upto_region 3 with fail
      go_quiet (fail)
      go_wp2_with fail
      go_ret
      exact FIN.out _ _ (by (repeat' (first | exact Below.refl _ _ | refine below_drewN ?_ _ | refine Below.drew ?_ | refine frA ?_ _ | refine Fr.trans ?_ HF1.out))) E2.out
    · have t2 : (r.h.seq != p.seq) = true := by simp [h3]
      clear h2 h3
      go_upto_region 3 with fail
      go_quiet (fail)
      go_wp2_with fail
      go_ret
      exact FIN.out _ _ (by (repeat' (first | exact Below.refl _ _ | refine below_drewN ?_ _ | refine Below.drew ?_ | refine frA ?_ _ | refine Fr.trans ?_ HF1.out))) E2.out
  case neg =>
  have E2 := Lib.hid (E1.out.trans (if_neg h2))
  have t2 : (r.h.seq != p.seq) = false := by simp; omega
  have t3 : decide (r.h.till ≤ p.time) = false := by simp; omega
  clear E1 h2
  go_upto_region 3 with fail
  go_quiet (fail)
  go_upto_region 5 with fail
  obtain ⟨W2, hW2⟩ : ∃ W2, W2 = (W1.drewN n1).drewN nq := ⟨_, rfl⟩
  have HF12 : Hid (Fr W1 W2) := by rw [hW2]; exact below_drewN (below_drewN (Below.refl _ _) _) _
  rw [← hW2]
  have HF2 : Hid (Fr w W2) := HF1.out.trans HF12.out
  clear hW2 t1 t2 t3 bp0 bp1 bp2 bp3 bx0 bx1 bx2 bx3 bx4 bx5 bx6 bx7 bx8 bx9 bx10 bx11 bx12
  have H2 := Lib.hid (H.out.fr HF2.out)
  have HQ2 := Lib.hid (blk_go HQ.out HF12.out)
  have hbx := H2.out.blk
  have hqx := HQ2.out
  (obtain ⟨bp0, bp1, bp2, bp3⟩ := box4_ hbx)
  (obtain ⟨bx0, bx1, bx2, bx3, bx4, bx5, bx6, bx7, bx8, bx9, bx10, bx11, bx12⟩ := box13_ hqx)
  clear hbx hqx HQ HF12 HF1
  by_cases h4 : r.n < 1 ∨ 64 < r.n
  case pos =>
    have E3 := Lib.hid (E2.out.trans (if_pos h4))
    clear E2
    by_cases h5 : r.n < 1
    · have t4 : decide (r.n < 1) = true := by simp [h5]
      clear h4 h5
      go_wp2_with fail
      go_ret
      exact FIN.out _ _ HF2.out E3.out
    · have t4 : decide (r.n < 1) = false := by simp; omega
      have t5 : decide (64 < r.n) = true := by simp; omega
      clear h4 h5
      go_wp2_with fail
      go_ret
      exact FIN.out _ _ HF2.out E3.out
  case neg =>
  have E3 := Lib.hid (E2.out.trans (if_neg h4))
  have t4 : decide (r.n < 1) = false := by simp; omega
  have t5 : decide (64 < r.n) = false := by simp; omega
  clear E2 h4
  obtain ⟨n, hn⟩ : ∃ n, n = p.keep.length := ⟨_, rfl⟩
  rw [← hn] at h12 bp1 E3
  by_cases h6 : n = 12
  case pos =>
    have E4 := Lib.hid (E3.out.trans (if_pos h6))
    have t6 : ((n : Int) == 12) = true := by simp [h6]
    clear E3 h6
    go_wp2_with fail
    go_ret
    exact FIN.out _ _ HF2.out E4.out
  case neg =>
  have E4 := Lib.hid (E3.out.trans (if_neg h6))
  have t6 : ((n : Int) == 12) = false := by simp; omega
  have h11 : n ≤ 11 := by omega
  have HN := Lib.hid hn
  clear E3 h6 h12 hn FIN
  obtain ⟨A9, c9, e9, ⟨hc9, hm9⟩, hsl⟩ := (H2.out.own.ofHi sKp).slC sKp (by decide)
  injection e9 with e9 _ e10
  subst e9 e10
  rw [← HN.out] at hsl hc9
  have HSL := Lib.hid hsl
  obtain ⟨pa, hpa⟩ : ∃ pa, pa = placeAt p.keep r.h := ⟨_, rfl⟩
  have HPA : Hid (pa = 0 + ((p.keep.drop 0).takeWhile fun y => aheadB y.h r.h).length) := by rw [Hid, List.drop_zero, hpa, Nat.zero_add]; rfl
  (have Hpa := Lib.hid hpa; clear hpa)
  clear hsl
  go_upto_region 9 with fail
  go_wp2_with fail
  go_loopw [5] (fun s5 wr => ∃ k : Nat, k ≤ n ∧ s5 = .int .i64 k ∧ Hid (pa = k + ((p.keep.drop k).takeWhile fun y => aheadB y.h r.h).length) ∧ Hid (Fr W2 wr)) (fun i _ => n - (intOf i).toNat)
  case atStart => exact ⟨0, Nat.zero_le _, rfl, HPA, Below.refl _ _⟩
  case round =>
    obtain ⟨k, hk, rfl, HS, HF⟩ := hrel
    have hbx := (H2.out.fr HF.out).blk
    rw [← HN.out] at hbx
    have hqx := blk_go HQ2.out HF.out
    clear bp0 bp1 bp2 bp3 bx0 bx1 bx2 bx3 bx4 bx5 bx6 bx7 bx8 bx9 bx10 bx11 bx12
    (obtain ⟨bp0, bp1, bp2, bp3⟩ := box4_ hbx)
    (obtain ⟨bx0, bx1, bx2, bx3, bx4, bx5, bx6, bx7, bx8, bx9, bx10, bx11, bx12⟩ := box13_ hqx)
    clear hbx hqx bp0 bp2 bp3 bx0 bx1 bx2 bx3 bx10 bx11 bx12
    by_cases hlt : k < n
    · obtain ⟨ad, hAd, hE⟩ := (HSL.out.go sKp HF.out).els (by omega)
      subst hAd
      obtain ⟨y, hy, hr⟩ := hE.row hlt
      obtain ⟨A1, n1', c1, A2, n2, c2, A3, n3, c3, ⟨m0, m1, m2, m3, m4, m5, _⟩, _⟩ := eKp_at hr
      have hSC : Hid (∀ w', Fr wr w' → w'.cell? ⟨pb, 1, none⟩ = some (.slice (some ad) n c) ∧ w'.cell? (ad.add (k * 16)) = some (.int .i64 y.h.frm) ∧ w'.cell? ⟨(ad.add (k * 16)).block, (ad.add (k * 16)).off + 1, none⟩ = some (.int .i64 y.h.seq) ∧ w'.cell? ⟨(ad.add (k * 16)).block, (ad.add (k * 16)).off + 2, none⟩ = some (.int .i64 y.h.to) ∧ w'.cell? ⟨(ad.add (k * 16)).block, (ad.add (k * 16)).off + 3, none⟩ = some (.int .i64 y.h.till) ∧ w'.cell? ⟨(ad.add (k * 16)).block, (ad.add (k * 16)).off + 4, none⟩ = some (.int .i64 y.h.bytes) ∧ w'.cell? ⟨(ad.add (k * 16)).block, (ad.add (k * 16)).off + 5, none⟩ = some (.int .i64 y.h.block) ∧ w'.cell? ⟨q, 4, none⟩ = some (.int .i64 r.h.frm) ∧ w'.cell? ⟨q, 5, none⟩ = some (.int .i64 r.h.seq) ∧ w'.cell? ⟨q, 6, none⟩ = some (.int .i64 r.h.to) ∧ w'.cell? ⟨q, 7, none⟩ = some (.int .i64 r.h.till) ∧ w'.cell? ⟨q, 8, none⟩ = some (.int .i64 r.h.bytes) ∧ w'.cell? ⟨q, 9, none⟩ = some (.int .i64 r.h.block)) := fun w' hf => ⟨(hf.cell (World.block_lt_of_cell? wr _ bp1)).trans bp1, (hf.cell (World.block_lt_of_cell? wr _ m0)).trans m0, (hf.cell (World.block_lt_of_cell? wr _ m1)).trans m1, (hf.cell (World.block_lt_of_cell? wr _ m2)).trans m2, (hf.cell (World.block_lt_of_cell? wr _ m3)).trans m3, (hf.cell (World.block_lt_of_cell? wr _ m4)).trans m4, (hf.cell (World.block_lt_of_cell? wr _ m5)).trans m5, (hf.cell (World.block_lt_of_cell? wr _ bx4)).trans bx4, (hf.cell (World.block_lt_of_cell? wr _ bx5)).trans bx5, (hf.cell (World.block_lt_of_cell? wr _ bx6)).trans bx6, (hf.cell (World.block_lt_of_cell? wr _ bx7)).trans bx7, (hf.cell (World.block_lt_of_cell? wr _ bx8)).trans bx8, (hf.cell (World.block_lt_of_cell? wr _ bx9)).trans bx9⟩
      obtain ⟨ab, hab⟩ : ∃ ab, ab = aheadB y.h r.h := ⟨_, rfl⟩
      have AH : Hid (∀ W, Calls Tryz.prog 99 #[.agg #[.int .i64 y.h.frm, .int .i64 y.h.seq, .int .i64 y.h.to, .int .i64 y.h.till, .int .i64 y.h.bytes, .int .i64 y.h.block], .agg #[.int .i64 r.h.frm, .int .i64 r.h.seq, .int .i64 r.h.to, .int .i64 r.h.till, .int .i64 r.h.bytes, .int .i64 r.h.block]] W fun e w' => e = .returned (.bool ab) ∧ Fr W w') := fun W => by rw [hab]; exact ahead_any W _ _
      have hlt2 : (k : Int) < (n : Int) := by omega
      have HYY := Lib.hid hy
      have HAB := Lib.hid hab
      clear hE hy hr hab m0 m1 m2 m3 m4 m5 bp1 bx4 bx5 bx6 bx7 bx8 bx9
      go_upto_region 10 with fail
      refine held_begin (n := 20) (bs := #[false, false, false, false, false, false, false, false, false, false, false, false, false, false, false, false, false, false, false, false]) rfl rfl (by kernel_rfl) (S := fun w' => w'.cell? ⟨pb, 1, none⟩ = some (.slice (some ad) n c) ∧ w'.cell? (ad.add (k * 16)) = some (.int .i64 y.h.frm) ∧ w'.cell? ⟨(ad.add (k * 16)).block, (ad.add (k * 16)).off + 1, none⟩ = some (.int .i64 y.h.seq) ∧ w'.cell? ⟨(ad.add (k * 16)).block, (ad.add (k * 16)).off + 2, none⟩ = some (.int .i64 y.h.to) ∧ w'.cell? ⟨(ad.add (k * 16)).block, (ad.add (k * 16)).off + 3, none⟩ = some (.int .i64 y.h.till) ∧ w'.cell? ⟨(ad.add (k * 16)).block, (ad.add (k * 16)).off + 4, none⟩ = some (.int .i64 y.h.bytes) ∧ w'.cell? ⟨(ad.add (k * 16)).block, (ad.add (k * 16)).off + 5, none⟩ = some (.int .i64 y.h.block) ∧ w'.cell? ⟨q, 4, none⟩ = some (.int .i64 r.h.frm) ∧ w'.cell? ⟨q, 5, none⟩ = some (.int .i64 r.h.seq) ∧ w'.cell? ⟨q, 6, none⟩ = some (.int .i64 r.h.to) ∧ w'.cell? ⟨q, 7, none⟩ = some (.int .i64 r.h.till) ∧ w'.cell? ⟨q, 8, none⟩ = some (.int .i64 r.h.bytes) ∧ w'.cell? ⟨q, 9, none⟩ = some (.int .i64 r.h.block)) (hSC.out _ (Below.refl _ _).drew) (fun hHeld => ?_)
      ((first | refine held_sk (i := 0) ?_ | refine held_tk (i := 0) ?_); (first | refine held_sk (i := 1) ?_ | refine held_tk (i := 1) ?_); (first | refine held_sk (i := 2) ?_ | refine held_tk (i := 2) ?_); (first | refine held_sk (i := 3) ?_ | refine held_tk (i := 3) ?_); (first | refine held_sk (i := 4) ?_ | refine held_tk (i := 4) ?_); (first | refine held_sk (i := 5) ?_ | refine held_tk (i := 5) ?_); (first | refine held_sk (i := 6) ?_ | refine held_tk (i := 6) ?_); (first | refine held_sk (i := 7) ?_ | refine held_tk (i := 7) ?_); (first | refine held_sk (i := 8) ?_ | refine held_tk (i := 8) ?_); (first | refine held_sk (i := 9) ?_ | refine held_tk (i := 9) ?_); (first | refine held_sk (i := 10) ?_ | refine held_tk (i := 10) ?_); (first | refine held_sk (i := 11) ?_ | refine held_tk (i := 11) ?_); (first | refine held_sk (i := 12) ?_ | refine held_tk (i := 12) ?_); (first | refine held_sk (i := 13) ?_ | refine held_tk (i := 13) ?_); (first | refine held_sk (i := 14) ?_ | refine held_tk (i := 14) ?_); (first | refine held_sk (i := 15) ?_ | refine held_tk (i := 15) ?_); (first | refine held_sk (i := 16) ?_ | refine held_tk (i := 16) ?_); (first | refine held_sk (i := 17) ?_ | refine held_tk (i := 17) ?_))
      refine held_one (i := 18) rfl (by kernel_rfl) (fun K hK => ?_)
      go_simp
      go_at_call 99
      (with_reducible refine (AH.out _).mono ?_)
      rintro e w7 ⟨rfl, hf7⟩
      have hf67 : Fr wr w7 := Fr.trans (Below.refl _ _).drew hf7
      (refine held_back hK (a' := ?hA15) (l' := ?hL15) ?ha15 ?hl15 (hSC.out _ hf67) (fun hHeld => ?hh15); (case ha15 => first | with_reducible rfl | (simp only [Act.put, hq1, hq2, hq3, Option.isNone, Bool.not_true, Bool.not_false]; (try with_reducible rfl))); (case hl15 => (simp only [Act.put, hq1, hq2, hq3, Option.isNone, Bool.not_true, Bool.not_false]; (try with_reducible rfl))); clear hK K)
      ((first | refine held_sk (i := 19) ?_ | refine held_tk (i := 19) ?_))
      refine wpAnyH_done (by kernel_rfl) ?_ _
      have HF7 : Hid (Fr W2 w7) := HF.out.trans hf67
      clear hSC AH hHeld hf7 hf67
      cases ab with
      | true =>
        have HS2 : Hid (pa = k + 1 + ((p.keep.drop (k + 1)).takeWhile fun y => aheadB y.h r.h).length) := by rw [Hid, HS.out, placeAt_step HYY.out HAB.out.symm]; omega
        go_wp2_with fail
        go_roundw
        case rel => exact ⟨k + 1, by omega, by go_num, HS2, HF7⟩
        case measure => simp [intOf]; omega
      | false =>
        have hkp : pa = k := by rw [HS.out, placeAt_stop HYY.out HAB.out.symm]; omega
        subst hkp
        clear HAB HYY HS
        obtain ⟨W3, hW3⟩ : ∃ W3, W3 = w7 := ⟨_, rfl⟩
        have HF23 : Hid (Fr W2 W3) := by rw [hW3]; exact HF7.out
        rw [← hW3]
        clear hW3
        have HF3 : Hid (Fr w W3) := HF2.out.trans HF23.out
        have H3 := Lib.hid (H.out.fr HF3.out)
        have HQ3 := Lib.hid (blk_go HQ2.out HF23.out)
        have hbx := H3.out.blk
        rw [← HN.out] at hbx
        have hqx := HQ3.out
        (obtain ⟨bp0, bp1, bp2, bp3⟩ := box4_ hbx)
        (obtain ⟨bx0, bx1, bx2, bx3, bx4, bx5, bx6, bx7, bx8, bx9, bx10, bx11, bx12⟩ := box13_ hqx)
        have hSC : Hid (∀ w', Fr W3 w' → w'.cell? ⟨pb, 1, none⟩ = some (.slice (some ad) n c) ∧ w'.cell? ⟨q, 2, none⟩ = some (.int .i64 r.n) ∧ w'.cell? ⟨q, 4, none⟩ = some (.int .i64 r.h.frm) ∧ w'.cell? ⟨q, 5, none⟩ = some (.int .i64 r.h.seq) ∧ w'.cell? ⟨q, 6, none⟩ = some (.int .i64 r.h.to) ∧ w'.cell? ⟨q, 7, none⟩ = some (.int .i64 r.h.till) ∧ w'.cell? ⟨q, 8, none⟩ = some (.int .i64 r.h.bytes) ∧ w'.cell? ⟨q, 9, none⟩ = some (.int .i64 r.h.block) ∧ w'.cell? ⟨q, 12, none⟩ = some (.slice B2 nb2 cb2)) := fun w' hf => ⟨(hf.cell (World.block_lt_of_cell? W3 _ bp1)).trans bp1, (hf.cell (World.block_lt_of_cell? W3 _ bx2)).trans bx2, (hf.cell (World.block_lt_of_cell? W3 _ bx4)).trans bx4, (hf.cell (World.block_lt_of_cell? W3 _ bx5)).trans bx5, (hf.cell (World.block_lt_of_cell? W3 _ bx6)).trans bx6, (hf.cell (World.block_lt_of_cell? W3 _ bx7)).trans bx7, (hf.cell (World.block_lt_of_cell? W3 _ bx8)).trans bx8, (hf.cell (World.block_lt_of_cell? W3 _ bx9)).trans bx9, (hf.cell (World.block_lt_of_cell? W3 _ bx12)).trans bx12⟩
        clear hbx hqx bp0 bp1 bp2 bp3 bx0 bx1 bx2 bx3 bx4 bx5 bx6 bx7 bx8 bx9 bx10 bx11 bx12
        go_upto_region 12 with fail
        refine last_begin 18 (n := 19) (bs := #[false, false, false, false, false, false, false, false, false, false, false, false, false, false, false, false, false, false, false]) rfl rfl (by kernel_rfl) (S := fun w' => w'.cell? ⟨pb, 1, none⟩ = some (.slice (some ad) n c) ∧ w'.cell? ⟨q, 2, none⟩ = some (.int .i64 r.n) ∧ w'.cell? ⟨q, 4, none⟩ = some (.int .i64 r.h.frm) ∧ w'.cell? ⟨q, 5, none⟩ = some (.int .i64 r.h.seq) ∧ w'.cell? ⟨q, 6, none⟩ = some (.int .i64 r.h.to) ∧ w'.cell? ⟨q, 7, none⟩ = some (.int .i64 r.h.till) ∧ w'.cell? ⟨q, 8, none⟩ = some (.int .i64 r.h.bytes) ∧ w'.cell? ⟨q, 9, none⟩ = some (.int .i64 r.h.block) ∧ w'.cell? ⟨q, 12, none⟩ = some (.slice B2 nb2 cb2)) (hSC.out _ (Below.refl _ _).drew) (fun hHeld => ?_)
        ((first | refine last_sk (i := 0) ?_ | refine last_tk (i := 0) ?_); (first | refine last_sk (i := 1) ?_ | refine last_tk (i := 1) ?_); (first | refine last_sk (i := 2) ?_ | refine last_tk (i := 2) ?_); (first | refine last_sk (i := 3) ?_ | refine last_tk (i := 3) ?_); (first | refine last_sk (i := 4) ?_ | refine last_tk (i := 4) ?_); (first | refine last_sk (i := 5) ?_ | refine last_tk (i := 5) ?_); (first | refine last_sk (i := 6) ?_ | refine last_tk (i := 6) ?_); (first | refine last_sk (i := 7) ?_ | refine last_tk (i := 7) ?_); (first | refine last_sk (i := 8) ?_ | refine last_tk (i := 8) ?_); (first | refine last_sk (i := 9) ?_ | refine last_tk (i := 9) ?_); (first | refine last_sk (i := 11) ?_ | refine last_tk (i := 11) ?_); (first | refine last_sk (i := 12) ?_ | refine last_tk (i := 12) ?_))
        refine last_one (i := 10) rfl (by kernel_rfl) (fun K hK => ?_)
        go_simp
        go_at_call 69
        (with_reducible refine (cloneBytes_any _ _ _ _ r.cargo (HYS.out.go sByte (HF3.out.trans (Below.refl _ _).drew)) HYL.out).mono ?_)
        rintro e w5 ⟨v5, rfl, ho5, hf5⟩
        obtain ⟨A5, c5, rfl, hd5, hs5⟩ := own_bytes ho5
        have HF35 : Hid (Fr W3 w5) := Fr.trans (Below.refl _ _).drew hf5
        have HS5 : Hid (Sl 1 eByte w5 (NW W3.heap.size w5.heap.size) A5 r.cargo.length r.cargo) := hs5
        have HD5 := Lib.hid hd5
        clear ho5 hf5 hs5 hd5
        (refine last_back hK (a' := ?hA1) (l' := ?hL1) ?ha1 ?hl1 (hSC.out _ HF35.out) (fun hHeld => ?hh1); (case ha1 => first | with_reducible rfl | (simp only [Act.put, hq1, hq2, hq3, Option.isNone, Bool.not_true, Bool.not_false]; (try with_reducible rfl))); (case hl1 => (simp only [Act.put, hq1, hq2, hq3, Option.isNone, Bool.not_true, Bool.not_false]; (try with_reducible rfl))); clear hK K)
        ((first | refine last_sk (i := 13) ?_ | refine last_tk (i := 13) ?_))
        refine last_one (i := 14) rfl (by kernel_rfl) (fun K hK => ?_)
        go_simp
        obtain ⟨W6, hW6⟩ : ∃ W6, W6 = w5.alloc (.cells #[.int .i64 r.h.frm, .int .i64 r.h.seq, .int .i64 r.h.to, .int .i64 r.h.till, .int .i64 r.h.bytes, .int .i64 r.h.block, .bool true, .slice A5 r.cargo.length c5, .slice none 0 0, .int .i64 r.n, .int .i64 0, .int .i64 0, .int .i64 0, .slice none 0 0, .bool false, .bool false] 96) := ⟨_, rfl⟩
        obtain ⟨vb, hvb⟩ : ∃ vb, vb = w5.heap.size := ⟨_, rfl⟩
        have HF56 : Hid (Fr w5 W6) := by rw [hW6]; exact frAlloc _ _
        have HV6 : Hid (W6.heap[vb]? = some (.cells (kpCells (Kp.sent r) A5 r.cargo.length c5 (.slice none 0 0) (.slice none 0 0)).toArray 96 (0, 0))) := by rw [hW6]; exact heap_new hvb
        have HF36 : Hid (Fr W3 W6) := HF35.out.trans HF56.out
        have H6 : Hid (PlM W6 base pb p (some ad) c) := H3.out.fr HF36.out
        have HO6 : Hid (Own 16 (eHi base eKq) W6 base 96 (.slice (some ad) n c) (p.keep.map fun x => (false, x))) := by
          have := H6.out.own.toQ
          rw [← HN.out] at this
          exact this
        have HX6 : Hid (eHi base eKq W6 (fun b => b < W6.heap.size ∧ (Value.slice (some ad) n c).ownBlock ≠ some b) (fun j => (kpCells (Kp.sent r) A5 r.cargo.length c5 (.slice none 0 0) (.slice none 0 0))[j]?) (false, Kp.sent r)) := by
          have w0 : wfI 0 := wfI.mk (by decide)
          refine ⟨eKp_iff.2 ⟨A5, r.cargo.length, c5, none, 0, 0, none, 0, 0, ⟨rfl, rfl, rfl, rfl, rfl, rfl, rfl, rfl, rfl, rfl, rfl, rfl, rfl, rfl, rfl, rfl⟩, ⟨hwh, hwn, w0, w0, w0⟩, ⟨⟨by rw [HYN.out]; exact HYL.out, HD5.out⟩, ?_⟩, ⟨⟨by unfold lim; omega, by omega, by unfold maxLen; omega⟩, Sl.nil⟩, ⟨by unfold lim; omega, by omega, by unfold maxLen; omega⟩, Sl.nil⟩, fun e => by cases e⟩
          refine (HS5.out.keep sByte fun b hb => HF56.out.cell hb.2).more sByte fun b hb => ⟨⟨Nat.lt_of_lt_of_le hb.2 HF56.out.size, fun e => ?_⟩, ?_⟩
          · have h1 := H3.out.own
            rw [← HN.out] at h1
            have := (h1.ge e).2
            have := hb.1
            omega
          · have := hb.1
            have := HF3.out.size
            omega
        rw [← hW6, ← hvb]
        have HVB := Lib.hid hvb
        clear hW6 hvb
        (refine last_back hK (a' := ?hA2) (l' := ?hL2) ?ha2 ?hl2 (hSC.out _ HF36.out) (fun hHeld => ?hh2); (case ha2 => first | with_reducible rfl | (simp only [Act.put, hq1, hq2, hq3, Option.isNone, Bool.not_true, Bool.not_false]; (try with_reducible rfl))); (case hl2 => (simp only [Act.put, hq1, hq2, hq3, Option.isNone, Bool.not_true, Bool.not_false]; (try with_reducible rfl))); clear hK K)
        refine last_one (i := 15) rfl (by kernel_rfl) (fun K hK => ?_)
        go_simp
        go_at_call 140
        with_reducible refine (insertKepts_own (N := base) W6 base pa vb (.slice (some ad) n c) (p.keep.map fun x => (false, x)) (false, Kp.sent r) (kpCells (Kp.sent r) A5 r.cargo.length c5 (.slice none 0 0) (.slice none 0 0)) 96 HO6.out (by rw [List.length_map, ← HN.out]; omega) HV6.out (fun e => by have := (HO6.out.ge e).2; have h1 := H3.out.own; rw [← HN.out] at h1; have := (h1.ge e).2; have := HF35.out.size; have := HVB.out; omega) rfl (by simp [kpCells, Value.oneCell']) HX6.out (by rw [List.length_map, ← HN.out]; unfold lim; omega) (by have := HF3.out.size; have := HF36.out.size; omega)).mono ?_
        rintro e w7 ⟨v7, rfl, ho7, hg7⟩
        obtain ⟨A7, n7, c7, rfl⟩ := own_isSl ho7
        have hno : ∀ b, (Value.slice (some ad) n c).ownBlock = some b → base ≤ b ∧ b < w.heap.size := fun b hb => by
          have h1 := H.out.own
          rw [← HN.out] at h1
          exact h1.ge hb
        have hk7 : Chg (fun b => (Value.slice (some ad) n c).ownBlock = some b) W6 w7 := ⟨hg7.os, hg7.tape, hg7.output, hg7.size, fun b hb hs => hg7.block b hb fun e => hs e.symm⟩
        have hno1 : ¬ (Value.slice (some ad) n c).ownBlock = some pb := fun e => by have := hno _ e; omega
        have hno2 : ¬ (Value.slice (some ad) n c).ownBlock = some q := fun e => by have := hno _ e; have := HQW.out; omega
        have hS7 : w7.cell? ⟨pb, 1, none⟩ = some (.slice (some ad) n c) ∧ w7.cell? ⟨q, 2, none⟩ = some (.int .i64 r.n) ∧ w7.cell? ⟨q, 4, none⟩ = some (.int .i64 r.h.frm) ∧ w7.cell? ⟨q, 5, none⟩ = some (.int .i64 r.h.seq) ∧ w7.cell? ⟨q, 6, none⟩ = some (.int .i64 r.h.to) ∧ w7.cell? ⟨q, 7, none⟩ = some (.int .i64 r.h.till) ∧ w7.cell? ⟨q, 8, none⟩ = some (.int .i64 r.h.bytes) ∧ w7.cell? ⟨q, 9, none⟩ = some (.int .i64 r.h.block) ∧ w7.cell? ⟨q, 12, none⟩ = some (.slice B2 nb2 cb2) := by
          obtain ⟨k1, k2, k3, k4, k5, k6, k7, k8, k9⟩ := hSC.out _ HF36.out
          exact ⟨(hk7.cell (World.block_lt_of_cell? W6 _ k1) hno1).trans k1, (hk7.cell (World.block_lt_of_cell? W6 _ k2) hno2).trans k2, (hk7.cell (World.block_lt_of_cell? W6 _ k3) hno2).trans k3, (hk7.cell (World.block_lt_of_cell? W6 _ k4) hno2).trans k4, (hk7.cell (World.block_lt_of_cell? W6 _ k5) hno2).trans k5, (hk7.cell (World.block_lt_of_cell? W6 _ k6) hno2).trans k6, (hk7.cell (World.block_lt_of_cell? W6 _ k7) hno2).trans k7, (hk7.cell (World.block_lt_of_cell? W6 _ k8) hno2).trans k8, (hk7.cell (World.block_lt_of_cell? W6 _ k9) hno2).trans k9⟩
        have hb7 := hk7.blk H6.out.blk hno1
        rw [← HN.out] at hb7
        have HO7 := Lib.hid ho7
        have HK7 := Lib.hid hk7
        (refine last_back hK (a' := ?hA3) (l' := ?hL3) ?ha3 ?hl3 (hS7) (fun hHeld => ?hh3); (case ha3 => first | with_reducible rfl | (simp only [Act.put, hq1, hq2, hq3, Option.isNone, Bool.not_true, Bool.not_false]; (try with_reducible rfl))); (case hl3 => (simp only [Act.put, hq1, hq2, hq3, Option.isNone, Bool.not_true, Bool.not_false]; (try with_reducible rfl))); clear hK K)
        refine last_one (i := 16) rfl (by kernel_rfl) (fun K hK => ?_)
        go_simp
        (refine last_back hK (a' := ?hA4) (l' := ?hL4) ?ha4 ?hl4 (hS7) (fun hHeld => ?hh4); (case ha4 => first | with_reducible rfl | (simp only [Act.put, hq1, hq2, hq3, Option.isNone, Bool.not_true, Bool.not_false]; (try with_reducible rfl))); (case hl4 => (simp only [Act.put, hq1, hq2, hq3, Option.isNone, Bool.not_true, Bool.not_false]; (try with_reducible rfl))); clear hK K)
        ((first | refine last_sk (i := 17) ?_ | refine last_tk (i := 17) ?_))
        have y1 := blk_free (i := 1) hb7
        have hpl7 := (Array.getElem?_eq_some_iff.1 hb7).1
        have mp1 := hS7.1
        refine last_one (i := 18) rfl (by kernel_rfl) (fun K hK => ?_)
        go_simp
        refine last_end hK (by kernel_rfl) ?_
        clear hK K
        obtain rfl : n7 = (insKp p.keep (Kp.sent r)).length := by
          rw [HO7.out.len _ _ _ rfl]
          unfold insKp
          rw [show placeAt p.keep (Kp.sent r).h = pa from Hpa.out.symm]
          simp
        obtain ⟨W8, hW8⟩ : ∃ W8, W8 = w7.setCell ⟨pb, 1, none⟩ (.slice A7 (insKp p.keep (Kp.sent r)).length c7) := ⟨_, rfl⟩
        have hb8 : W8.heap[pb]? = some (.cells #[.int .i64 p.me, .slice A7 (insKp p.keep (Kp.sent r)).length c7, .int .i64 p.time, .int .i64 p.seq] 25 (0, 0)) := by rw [hW8]; have := heap_setCell_same w7 pb 1 _ _ (.slice A7 (insKp p.keep (Kp.sent r)).length c7) hb7; simpa using this
        have hk8 : Chg (fun b => b = pb) w7 W8 := by rw [hW8]; exact Chg.set (S := fun b => b = pb) (p := ⟨pb, 1, none⟩) (Chg.refl _ _) rfl _
        rw [← hW8]
        (obtain ⟨bp0, bp1, bp2, bp3⟩ := box4_ hb8)
        have y3 := blk_free (i := 3) hb8
        have hpl8 := (Array.getElem?_eq_some_iff.1 hb8).1
        have hws : IntKind.i64.wrap (p.seq + 1) = p.seq + 1 := by rw [IntKind.wrap_i64]; omega
        have hk9 : Chg (fun b => b = pb) w7 (W8.setCell ⟨pb, 3, none⟩ (.int .i64 (p.seq + 1))) := Chg.set (S := fun b => b = pb) (p := ⟨pb, 3, none⟩) hk8 rfl _
        have HP9 : Hid (PlM (W8.setCell ⟨pb, 3, none⟩ (.int .i64 (p.seq + 1))) base pb { p with keep := insKp p.keep (Kp.sent r), seq := p.seq + 1 } A7 c7) := by
          refine ⟨?_, hpb, ?_⟩
          · have := heap_setCell_same W8 pb 3 _ _ (.int .i64 (p.seq + 1)) hb8
            simpa using this
          · have h1 := HO7.out.ofQ
            have e1 : (List.take pa (p.keep.map fun x => (false, x)) ++ (false, Kp.sent r) :: List.drop pa (p.keep.map fun x => (false, x))).map (·.2) = insKp p.keep (Kp.sent r) := by
              unfold insKp
              rw [show placeAt p.keep (Kp.sent r).h = pa from Hpa.out.symm]
              simp [List.map_take, List.map_drop, List.map_map, Function.comp_def]
            rw [e1] at h1
            exact h1.hiChg sKp hk9 fun b hb => by rw [hb]; exact hpb
        have HC9 : Hid (Chg (PlS base pb) w (W8.setCell ⟨pb, 3, none⟩ (.int .i64 (p.seq + 1)))) := by
          have q1 : Chg (PlS base pb) w W6 := (HF3.out.trans HF36.out).chg
          have q2 : Chg (PlS base pb) W6 w7 := HK7.out.more fun b hb => .inr (hno b hb).1
          exact (q1.trans q2).trans (hk9.more fun b hb => .inl hb)
        clear hb7 hb8 hk8 hk9 hk7 hW8 hS7 y1 hpl7 mp1 hno hno1 hno2 hSC
        go_wp2_with fail
        go_ret
        rw [E4.out]
        exact ⟨rfl, HC9.out, _, _, HP9.out⟩
    · have hkn : k = n := by omega
      have hkp : pa = k := by rw [HS.out, List.drop_eq_nil_of_le (by rw [← HN.out]; omega)]; simp
      subst hkp
      have tk : decide ((pa : Int) < (n : Int)) = false := by simp; omega
      clear hkn
      clear HS bx4 bx5 bx6 bx7 bx8 bx9
      go_upto_region 10 with fail
      go_quiet (fail)
      obtain ⟨W3, hW3⟩ : ∃ W3, W3 = (wr.drewN nq) := ⟨_, rfl⟩
      have HF23 : Hid (Fr W2 W3) := by rw [hW3]; exact (by (repeat' (first | exact Below.refl _ _ | refine below_drewN ?_ _ | refine Below.drew ?_ | refine frA ?_ _ | refine Fr.trans ?_ HF.out)))
      rw [← hW3]
      clear hW3
      have HF3 : Hid (Fr w W3) := HF2.out.trans HF23.out
      have H3 := Lib.hid (H.out.fr HF3.out)
      have HQ3 := Lib.hid (blk_go HQ2.out HF23.out)
      have hbx := H3.out.blk
      rw [← HN.out] at hbx
      have hqx := HQ3.out
      (obtain ⟨bp0, bp1, bp2, bp3⟩ := box4_ hbx)
      (obtain ⟨bx0, bx1, bx2, bx3, bx4, bx5, bx6, bx7, bx8, bx9, bx10, bx11, bx12⟩ := box13_ hqx)
      have hSC : Hid (∀ w', Fr W3 w' → w'.cell? ⟨pb, 1, none⟩ = some (.slice A n c) ∧ w'.cell? ⟨q, 2, none⟩ = some (.int .i64 r.n) ∧ w'.cell? ⟨q, 4, none⟩ = some (.int .i64 r.h.frm) ∧ w'.cell? ⟨q, 5, none⟩ = some (.int .i64 r.h.seq) ∧ w'.cell? ⟨q, 6, none⟩ = some (.int .i64 r.h.to) ∧ w'.cell? ⟨q, 7, none⟩ = some (.int .i64 r.h.till) ∧ w'.cell? ⟨q, 8, none⟩ = some (.int .i64 r.h.bytes) ∧ w'.cell? ⟨q, 9, none⟩ = some (.int .i64 r.h.block) ∧ w'.cell? ⟨q, 12, none⟩ = some (.slice B2 nb2 cb2)) := fun w' hf => ⟨(hf.cell (World.block_lt_of_cell? W3 _ bp1)).trans bp1, (hf.cell (World.block_lt_of_cell? W3 _ bx2)).trans bx2, (hf.cell (World.block_lt_of_cell? W3 _ bx4)).trans bx4, (hf.cell (World.block_lt_of_cell? W3 _ bx5)).trans bx5, (hf.cell (World.block_lt_of_cell? W3 _ bx6)).trans bx6, (hf.cell (World.block_lt_of_cell? W3 _ bx7)).trans bx7, (hf.cell (World.block_lt_of_cell? W3 _ bx8)).trans bx8, (hf.cell (World.block_lt_of_cell? W3 _ bx9)).trans bx9, (hf.cell (World.block_lt_of_cell? W3 _ bx12)).trans bx12⟩
      clear hbx hqx bp0 bp1 bp2 bp3 bx0 bx1 bx2 bx3 bx4 bx5 bx6 bx7 bx8 bx9 bx10 bx11 bx12
      go_upto_region 12 with fail
      refine last_begin 18 (n := 19) (bs := #[false, false, false, false, false, false, false, false, false, false, false, false, false, false, false, false, false, false, false]) rfl rfl (by kernel_rfl) (S := fun w' => w'.cell? ⟨pb, 1, none⟩ = some (.slice A n c) ∧ w'.cell? ⟨q, 2, none⟩ = some (.int .i64 r.n) ∧ w'.cell? ⟨q, 4, none⟩ = some (.int .i64 r.h.frm) ∧ w'.cell? ⟨q, 5, none⟩ = some (.int .i64 r.h.seq) ∧ w'.cell? ⟨q, 6, none⟩ = some (.int .i64 r.h.to) ∧ w'.cell? ⟨q, 7, none⟩ = some (.int .i64 r.h.till) ∧ w'.cell? ⟨q, 8, none⟩ = some (.int .i64 r.h.bytes) ∧ w'.cell? ⟨q, 9, none⟩ = some (.int .i64 r.h.block) ∧ w'.cell? ⟨q, 12, none⟩ = some (.slice B2 nb2 cb2)) (hSC.out _ (Below.refl _ _).drew) (fun hHeld => ?_)
      ((first | refine last_sk (i := 0) ?_ | refine last_tk (i := 0) ?_); (first | refine last_sk (i := 1) ?_ | refine last_tk (i := 1) ?_); (first | refine last_sk (i := 2) ?_ | refine last_tk (i := 2) ?_); (first | refine last_sk (i := 3) ?_ | refine last_tk (i := 3) ?_); (first | refine last_sk (i := 4) ?_ | refine last_tk (i := 4) ?_); (first | refine last_sk (i := 5) ?_ | refine last_tk (i := 5) ?_); (first | refine last_sk (i := 6) ?_ | refine last_tk (i := 6) ?_); (first | refine last_sk (i := 7) ?_ | refine last_tk (i := 7) ?_); (first | refine last_sk (i := 8) ?_ | refine last_tk (i := 8) ?_); (first | refine last_sk (i := 9) ?_ | refine last_tk (i := 9) ?_); (first | refine last_sk (i := 11) ?_ | refine last_tk (i := 11) ?_); (first | refine last_sk (i := 12) ?_ | refine last_tk (i := 12) ?_))
      refine last_one (i := 10) rfl (by kernel_rfl) (fun K hK => ?_)
      go_simp
      go_at_call 69
      (with_reducible refine (cloneBytes_any _ _ _ _ r.cargo (HYS.out.go sByte (HF3.out.trans (Below.refl _ _).drew)) HYL.out).mono ?_)
      rintro e w5 ⟨v5, rfl, ho5, hf5⟩
      obtain ⟨A5, c5, rfl, hd5, hs5⟩ := own_bytes ho5
      have HF35 : Hid (Fr W3 w5) := Fr.trans (Below.refl _ _).drew hf5
      have HS5 : Hid (Sl 1 eByte w5 (NW W3.heap.size w5.heap.size) A5 r.cargo.length r.cargo) := hs5
      have HD5 := Lib.hid hd5
      clear ho5 hf5 hs5 hd5
      (refine last_back hK (a' := ?hA5) (l' := ?hL5) ?ha5 ?hl5 (hSC.out _ HF35.out) (fun hHeld => ?hh5); (case ha5 => first | with_reducible rfl | (simp only [Act.put, hq1, hq2, hq3, Option.isNone, Bool.not_true, Bool.not_false]; (try with_reducible rfl))); (case hl5 => (simp only [Act.put, hq1, hq2, hq3, Option.isNone, Bool.not_true, Bool.not_false]; (try with_reducible rfl))); clear hK K)
      ((first | refine last_sk (i := 13) ?_ | refine last_tk (i := 13) ?_))
      refine last_one (i := 14) rfl (by kernel_rfl) (fun K hK => ?_)
      go_simp
      obtain ⟨W6, hW6⟩ : ∃ W6, W6 = w5.alloc (.cells #[.int .i64 r.h.frm, .int .i64 r.h.seq, .int .i64 r.h.to, .int .i64 r.h.till, .int .i64 r.h.bytes, .int .i64 r.h.block, .bool true, .slice A5 r.cargo.length c5, .slice none 0 0, .int .i64 r.n, .int .i64 0, .int .i64 0, .int .i64 0, .slice none 0 0, .bool false, .bool false] 96) := ⟨_, rfl⟩
      obtain ⟨vb, hvb⟩ : ∃ vb, vb = w5.heap.size := ⟨_, rfl⟩
      have HF56 : Hid (Fr w5 W6) := by rw [hW6]; exact frAlloc _ _
      have HV6 : Hid (W6.heap[vb]? = some (.cells (kpCells (Kp.sent r) A5 r.cargo.length c5 (.slice none 0 0) (.slice none 0 0)).toArray 96 (0, 0))) := by rw [hW6]; exact heap_new hvb
      have HF36 : Hid (Fr W3 W6) := HF35.out.trans HF56.out
      have H6 : Hid (PlM W6 base pb p A c) := H3.out.fr HF36.out
      have HO6 : Hid (Own 16 (eHi base eKq) W6 base 96 (.slice A n c) (p.keep.map fun x => (false, x))) := by
        have := H6.out.own.toQ
        rw [← HN.out] at this
        exact this
      have HX6 : Hid (eHi base eKq W6 (fun b => b < W6.heap.size ∧ (Value.slice A n c).ownBlock ≠ some b) (fun j => (kpCells (Kp.sent r) A5 r.cargo.length c5 (.slice none 0 0) (.slice none 0 0))[j]?) (false, Kp.sent r)) := by
        have w0 : wfI 0 := wfI.mk (by decide)
        refine ⟨eKp_iff.2 ⟨A5, r.cargo.length, c5, none, 0, 0, none, 0, 0, ⟨rfl, rfl, rfl, rfl, rfl, rfl, rfl, rfl, rfl, rfl, rfl, rfl, rfl, rfl, rfl, rfl⟩, ⟨hwh, hwn, w0, w0, w0⟩, ⟨⟨by rw [HYN.out]; exact HYL.out, HD5.out⟩, ?_⟩, ⟨⟨by unfold lim; omega, by omega, by unfold maxLen; omega⟩, Sl.nil⟩, ⟨by unfold lim; omega, by omega, by unfold maxLen; omega⟩, Sl.nil⟩, fun e => by cases e⟩
        refine (HS5.out.keep sByte fun b hb => HF56.out.cell hb.2).more sByte fun b hb => ⟨⟨Nat.lt_of_lt_of_le hb.2 HF56.out.size, fun e => ?_⟩, ?_⟩
        · have h1 := H3.out.own
          rw [← HN.out] at h1
          have := (h1.ge e).2
          have := hb.1
          omega
        · have := hb.1
          have := HF3.out.size
          omega
      rw [← hW6, ← hvb]
      have HVB := Lib.hid hvb
      clear hW6 hvb
      (refine last_back hK (a' := ?hA6) (l' := ?hL6) ?ha6 ?hl6 (hSC.out _ HF36.out) (fun hHeld => ?hh6); (case ha6 => first | with_reducible rfl | (simp only [Act.put, hq1, hq2, hq3, Option.isNone, Bool.not_true, Bool.not_false]; (try with_reducible rfl))); (case hl6 => (simp only [Act.put, hq1, hq2, hq3, Option.isNone, Bool.not_true, Bool.not_false]; (try with_reducible rfl))); clear hK K)
      refine last_one (i := 15) rfl (by kernel_rfl) (fun K hK => ?_)
      go_simp
      go_at_call 140
      with_reducible refine (insertKepts_own (N := base) W6 base pa vb (.slice A n c) (p.keep.map fun x => (false, x)) (false, Kp.sent r) (kpCells (Kp.sent r) A5 r.cargo.length c5 (.slice none 0 0) (.slice none 0 0)) 96 HO6.out (by rw [List.length_map, ← HN.out]; omega) HV6.out (fun e => by have := (HO6.out.ge e).2; have h1 := H3.out.own; rw [← HN.out] at h1; have := (h1.ge e).2; have := HF35.out.size; have := HVB.out; omega) rfl (by simp [kpCells, Value.oneCell']) HX6.out (by rw [List.length_map, ← HN.out]; unfold lim; omega) (by have := HF3.out.size; have := HF36.out.size; omega)).mono ?_
      rintro e w7 ⟨v7, rfl, ho7, hg7⟩
      obtain ⟨A7, n7, c7, rfl⟩ := own_isSl ho7
      have hno : ∀ b, (Value.slice A n c).ownBlock = some b → base ≤ b ∧ b < w.heap.size := fun b hb => by
        have h1 := H.out.own
        rw [← HN.out] at h1
        exact h1.ge hb
      have hk7 : Chg (fun b => (Value.slice A n c).ownBlock = some b) W6 w7 := ⟨hg7.os, hg7.tape, hg7.output, hg7.size, fun b hb hs => hg7.block b hb fun e => hs e.symm⟩
      have hno1 : ¬ (Value.slice A n c).ownBlock = some pb := fun e => by have := hno _ e; omega
      have hno2 : ¬ (Value.slice A n c).ownBlock = some q := fun e => by have := hno _ e; have := HQW.out; omega
      have hS7 : w7.cell? ⟨pb, 1, none⟩ = some (.slice A n c) ∧ w7.cell? ⟨q, 2, none⟩ = some (.int .i64 r.n) ∧ w7.cell? ⟨q, 4, none⟩ = some (.int .i64 r.h.frm) ∧ w7.cell? ⟨q, 5, none⟩ = some (.int .i64 r.h.seq) ∧ w7.cell? ⟨q, 6, none⟩ = some (.int .i64 r.h.to) ∧ w7.cell? ⟨q, 7, none⟩ = some (.int .i64 r.h.till) ∧ w7.cell? ⟨q, 8, none⟩ = some (.int .i64 r.h.bytes) ∧ w7.cell? ⟨q, 9, none⟩ = some (.int .i64 r.h.block) ∧ w7.cell? ⟨q, 12, none⟩ = some (.slice B2 nb2 cb2) := by
        obtain ⟨k1, k2, k3, k4, k5, k6, k7, k8, k9⟩ := hSC.out _ HF36.out
        exact ⟨(hk7.cell (World.block_lt_of_cell? W6 _ k1) hno1).trans k1, (hk7.cell (World.block_lt_of_cell? W6 _ k2) hno2).trans k2, (hk7.cell (World.block_lt_of_cell? W6 _ k3) hno2).trans k3, (hk7.cell (World.block_lt_of_cell? W6 _ k4) hno2).trans k4, (hk7.cell (World.block_lt_of_cell? W6 _ k5) hno2).trans k5, (hk7.cell (World.block_lt_of_cell? W6 _ k6) hno2).trans k6, (hk7.cell (World.block_lt_of_cell? W6 _ k7) hno2).trans k7, (hk7.cell (World.block_lt_of_cell? W6 _ k8) hno2).trans k8, (hk7.cell (World.block_lt_of_cell? W6 _ k9) hno2).trans k9⟩
      have hb7 := hk7.blk H6.out.blk hno1
      rw [← HN.out] at hb7
      have HO7 := Lib.hid ho7
      have HK7 := Lib.hid hk7
      (refine last_back hK (a' := ?hA7) (l' := ?hL7) ?ha7 ?hl7 (hS7) (fun hHeld => ?hh7); (case ha7 => first | with_reducible rfl | (simp only [Act.put, hq1, hq2, hq3, Option.isNone, Bool.not_true, Bool.not_false]; (try with_reducible rfl))); (case hl7 => (simp only [Act.put, hq1, hq2, hq3, Option.isNone, Bool.not_true, Bool.not_false]; (try with_reducible rfl))); clear hK K)
      refine last_one (i := 16) rfl (by kernel_rfl) (fun K hK => ?_)
      go_simp
      (refine last_back hK (a' := ?hA8) (l' := ?hL8) ?ha8 ?hl8 (hS7) (fun hHeld => ?hh8); (case ha8 => first | with_reducible rfl | (simp only [Act.put, hq1, hq2, hq3, Option.isNone, Bool.not_true, Bool.not_false]; (try with_reducible rfl))); (case hl8 => (simp only [Act.put, hq1, hq2, hq3, Option.isNone, Bool.not_true, Bool.not_false]; (try with_reducible rfl))); clear hK K)
      ((first | refine last_sk (i := 17) ?_ | refine last_tk (i := 17) ?_))
      have y1 := blk_free (i := 1) hb7
      have hpl7 := (Array.getElem?_eq_some_iff.1 hb7).1
      have mp1 := hS7.1
      refine last_one (i := 18) rfl (by kernel_rfl) (fun K hK => ?_)
      go_simp
      refine last_end hK (by kernel_rfl) ?_
      clear hK K
      obtain rfl : n7 = (insKp p.keep (Kp.sent r)).length := by
        rw [HO7.out.len _ _ _ rfl]
        unfold insKp
        rw [show placeAt p.keep (Kp.sent r).h = pa from Hpa.out.symm]
        simp
      obtain ⟨W8, hW8⟩ : ∃ W8, W8 = w7.setCell ⟨pb, 1, none⟩ (.slice A7 (insKp p.keep (Kp.sent r)).length c7) := ⟨_, rfl⟩
      have hb8 : W8.heap[pb]? = some (.cells #[.int .i64 p.me, .slice A7 (insKp p.keep (Kp.sent r)).length c7, .int .i64 p.time, .int .i64 p.seq] 25 (0, 0)) := by rw [hW8]; have := heap_setCell_same w7 pb 1 _ _ (.slice A7 (insKp p.keep (Kp.sent r)).length c7) hb7; simpa using this
      have hk8 : Chg (fun b => b = pb) w7 W8 := by rw [hW8]; exact Chg.set (S := fun b => b = pb) (p := ⟨pb, 1, none⟩) (Chg.refl _ _) rfl _
      rw [← hW8]
      (obtain ⟨bp0, bp1, bp2, bp3⟩ := box4_ hb8)
      have y3 := blk_free (i := 3) hb8
      have hpl8 := (Array.getElem?_eq_some_iff.1 hb8).1
      have hws : IntKind.i64.wrap (p.seq + 1) = p.seq + 1 := by rw [IntKind.wrap_i64]; omega
      have hk9 : Chg (fun b => b = pb) w7 (W8.setCell ⟨pb, 3, none⟩ (.int .i64 (p.seq + 1))) := Chg.set (S := fun b => b = pb) (p := ⟨pb, 3, none⟩) hk8 rfl _
      have HP9 : Hid (PlM (W8.setCell ⟨pb, 3, none⟩ (.int .i64 (p.seq + 1))) base pb { p with keep := insKp p.keep (Kp.sent r), seq := p.seq + 1 } A7 c7) := by
        refine ⟨?_, hpb, ?_⟩
        · have := heap_setCell_same W8 pb 3 _ _ (.int .i64 (p.seq + 1)) hb8
          simpa using this
        · have h1 := HO7.out.ofQ
          have e1 : (List.take pa (p.keep.map fun x => (false, x)) ++ (false, Kp.sent r) :: List.drop pa (p.keep.map fun x => (false, x))).map (·.2) = insKp p.keep (Kp.sent r) := by
            unfold insKp
            rw [show placeAt p.keep (Kp.sent r).h = pa from Hpa.out.symm]
            simp [List.map_take, List.map_drop, List.map_map, Function.comp_def]
          rw [e1] at h1
          exact h1.hiChg sKp hk9 fun b hb => by rw [hb]; exact hpb
      have HC9 : Hid (Chg (PlS base pb) w (W8.setCell ⟨pb, 3, none⟩ (.int .i64 (p.seq + 1)))) := by
        have q1 : Chg (PlS base pb) w W6 := (HF3.out.trans HF36.out).chg
        have q2 : Chg (PlS base pb) W6 w7 := HK7.out.more fun b hb => .inr (hno b hb).1
        exact (q1.trans q2).trans (hk9.more fun b hb => .inl hb)
      clear hb7 hb8 hk8 hk9 hk7 hW8 hS7 y1 hpl7 mp1 hno hno1 hno2 hSC
      go_wp2_with fail
      go_ret
      rw [E4.out]
      exact ⟨rfl, HC9.out, _, _, HP9.out⟩
end Go.Proofs.YtmiaplgfbphfmaaGreatDoor
namespace Go.Proofs.YtmiaplgfbphfmaaGreatDoor
open Go.RowKit

set_option maxHeartbeats 1000000 in
theorem eqPlan (d : Nat) (a b c e : Int) (w : World) : (Op.equalIn (d + 2) 32 (.agg #[.int .i64 a, .int .i64 b]) (.agg #[.int .i64 c, .int .i64 e])).run Tryz.prog w = .ok (decide (a = c ∧ b = e)) w := by
  have hS : Tryz.prog.underlying 32 = some (.struct (Tryz.prog.fieldsOf 32)) := by kernel_rfl
  rw [run_equalIn_agg w (d + 1) 32 _ _ hS (by kernel_rfl)]
  simp only [Program.fieldsOf, Tryz.underlying32]
  go_simp
  by_cases h1 : a = c <;> by_cases h2 : b = e <;> simp [h1, h2]
set_option maxHeartbeats 1000000 in
theorem eqHd (x y : Hd) (w : World) : (Op.equalIn 10000 34 (.agg #[.int .i64 x.frm, .int .i64 x.seq, .int .i64 x.to, .int .i64 x.till, .int .i64 x.bytes, .int .i64 x.block]) (.agg #[.int .i64 y.frm, .int .i64 y.seq, .int .i64 y.to, .int .i64 y.till, .int .i64 y.bytes, .int .i64 y.block])).run Tryz.prog w = .ok (decide (x = y)) w := by
  obtain ⟨a0, a1, a2, a3, a4, a5⟩ := x
  obtain ⟨b0, b1, b2, b3, b4, b5⟩ := y
  have hS : Tryz.prog.underlying 34 = some (.struct (Tryz.prog.fieldsOf 34)) := by kernel_rfl
  have hp := fun W => eqPlan 9997 a4 a5 b4 b5 W
  rw [show (10000 : Nat) = 9999 + 1 from rfl, run_equalIn_agg w 9999 34 _ _ hS (by kernel_rfl)]
  simp only [Program.fieldsOf, Tryz.underlying34]
  go_simp
  by_cases h1 : a0 = b0 <;> by_cases h2 : a1 = b1 <;> by_cases h3 : a2 = b2 <;> by_cases h4 : a3 = b3 <;> by_cases h5 : a4 = b4 <;> by_cases h6 : a5 = b5 <;> simp [h1, h2, h3, h4, h5, h6]
end Go.Proofs.YtmiaplgfbphfmaaGreatDoor
namespace Go.Proofs.YtmiaplgfbphfmaaGreatDoor
open Go.RowKit
attribute [local irreducible] wpList

/-- A place in hand, each bundle in blocks of its own. -/
structure PlA (w : World) (base pb : Nat) (p : Pc) (A : Option Addr) (c : Nat) (lo : Nat → Nat) : Prop where
  blk : w.heap[pb]? = some (.cells #[.int .i64 p.me, .slice A p.keep.length c, .int .i64 p.time, .int .i64 p.seq] 25 (0, 0))
  low : pb < base
  all : AllM w base (.slice A p.keep.length c) p.keep lo
theorem PlA.plM {w : World} {base pb : Nat} {p : Pc} {A : Option Addr} {c : Nat} {lo : Nat → Nat} (h : PlA w base pb p A c lo) : PlM w base pb p A c := ⟨h.blk, h.low, h.all.toOwn⟩
theorem PlA.fr {w w' : World} {base pb : Nat} {p : Pc} {A : Option Addr} {c : Nat} {lo : Nat → Nat} (h : PlA w base pb p A c lo) (k : Fr w w') : PlA w' base pb p A c lo := ⟨blk_go h.blk k, h.low, h.all.chg (S := fun _ => False) k.chg fun _ _ _ e => e⟩
/-- What keep.bundle may change. -/
def BunS (pb : Nat) (v : Value) (b : Nat) : Prop := b = pb ∨ v.ownBlock = some b
/-- What keep.bundle leaves. -/
def BunPost (w : World) (base pb : Nat) (p : Pc) (A : Option Addr) (c : Nat) (h : Hd) (e : Ending) (w' : World) : Prop :=
  (e = .returned (.tuple #[.pointer none, .int .i64 (bundleF p h).2]) ∧ (bundleF p h).2 ≠ 0 ∧ Chg (BunS pb (.slice A p.keep.length c)) w w' ∧ ∃ A c, PlM w' base pb p A c) ∨
  ∃ (l : List Kp) (i : Nat) (x : Kp) (g cap : Nat) (Ac : Option Addr) (nc cc : Nat) (vS vT : Value) (T : Nat → Prop), bundleF p h = ((l, i, x), 0) ∧ e = .returned (.tuple #[.pointer (some ⟨g, i * 16, none⟩), .int .i64 0]) ∧ Chg (BunS pb (.slice A p.keep.length c)) w w' ∧
    w'.heap[pb]? = some (.cells #[.int .i64 p.me, .slice (some ⟨g, 0, none⟩) l.length cap, .int .i64 p.time, .int .i64 p.seq] 25 (0, 0)) ∧ Foc0 T w' base g cap l i x Ac nc cc vS vT
set_option maxRecDepth 100000 in
set_option maxHeartbeats 16000000 in
theorem bundle_any (w : World) (base pb : Nat) (p : Pc) (A : Option Addr) (c : Nat) (lo : Nat → Nat) (hp : PlA w base pb p A c lo) (h12 : p.keep.length ≤ 12) (h : Hd) (hwh : h.wf) (hb : base ≤ w.heap.size) :
    Calls Tryz.prog 110 #[.pointer (some ⟨pb, 0, none⟩), .agg #[.int .i64 h.frm, .int .i64 h.seq, .int .i64 h.to, .int .i64 h.till, .int .i64 h.bytes, .int .i64 h.block]] w (BunPost w base pb p A c h) := by
  have E := Lib.hid (bundleF.eq_1 p h)
  have hbb := hp.blk
  have hpb := hp.low
  have H := Lib.hid hp
  have hpl := (Array.getElem?_eq_some_iff.1 hbb).1
  have fin : ∀ x k W, Fr w W → k ≠ 0 → bundleF p h = (x, k) → BunPost w base pb p A c h (.returned (.tuple #[.pointer none, .int .i64 k])) W := fun x k W hf hk e => by
    refine .inl ⟨by rw [e], by rw [e]; exact hk, hf.chg, _, _, (H.out.fr hf).plM⟩
  have FIN := Lib.hid fin
  clear fin
  go_enter Tryz.func110, Tryz.ntmps110
  go_upto_region 1 with fail
  obtain ⟨W1, hW1⟩ : ∃ W1, W1 = w.alloc (.cells #[.int .i64 h.frm, .int .i64 h.seq, .int .i64 h.to, .int .i64 h.till, .int .i64 h.bytes, .int .i64 h.block] 34) := ⟨_, rfl⟩
  obtain ⟨q, hq⟩ : ∃ q, q = w.heap.size := ⟨_, rfl⟩
  have HQ : Hid (W1.heap[q]? = some (.cells #[.int .i64 h.frm, .int .i64 h.seq, .int .i64 h.to, .int .i64 h.till, .int .i64 h.bytes, .int .i64 h.block] 34 (0, 0))) := by rw [hW1]; exact heap_new hq
  have HF1 : Hid (Fr w W1) := by rw [hW1]; exact frAlloc _ _
  rw [← hW1, ← hq]
  have HQW : Hid (q = w.heap.size) := hq
  clear hW1 hq hp hbb
  have hbx := blk_go H.out.blk HF1.out
  have hqx := HQ.out
  (obtain ⟨bp0, bp1, bp2, bp3⟩ := box4_ hbx)
  (obtain ⟨bx0, bx1, bx2, bx3, bx4, bx5⟩ := box6_ hqx)
  clear hbx hqx
  by_cases h1 : h.till ≤ p.time
  case pos =>
    have E1 := Lib.hid (E.out.trans (if_pos h1))
    have t1 : decide (h.till ≤ p.time) = true := by simp [h1]
    clear E h1
    go_quiet (fail)
    go_wp2_with fail
    go_ret2
    exact FIN.out _ _ _ (by (repeat' (first | exact Below.refl _ _ | refine below_drewN ?_ _ | refine Below.drew ?_ | refine frA ?_ _ | refine Fr.trans ?_ HF1.out))) (by decide) E1.out
  case neg =>
  have E1 := Lib.hid (E.out.trans (if_neg h1))
  have t1 : decide (h.till ≤ p.time) = false := by simp; omega
  clear E h1
  go_quiet (fail)
  obtain ⟨W2, hW2⟩ : ∃ W2, W2 = W1.drewN nq := ⟨_, rfl⟩
  have HF12 : Hid (Fr W1 W2) := by rw [hW2]; exact below_drewN (Below.refl _ _) _
  rw [← hW2]
  have HF2' : Hid (Fr w W2) := HF1.out.trans HF12.out
  clear hW2 t1 bp0 bp1 bp2 bp3 bx0 bx1 bx2 bx3 bx4 bx5
  obtain ⟨n, hn⟩ : ∃ n, n = p.keep.length := ⟨_, rfl⟩
  have hbx := (H.out.fr HF2'.out).blk
  rw [← hn] at hbx
  have hqx := blk_go HQ.out HF12.out
  (obtain ⟨bp0, bp1, bp2, bp3⟩ := box4_ hbx)
  (obtain ⟨bx0, bx1, bx2, bx3, bx4, bx5⟩ := box6_ hqx)
  have hSC : Hid (∀ w', Fr W2 w' → w'.cell? ⟨pb, 0, none⟩ = some (.int .i64 p.me) ∧ w'.cell? ⟨pb, 1, none⟩ = some (.slice A n c) ∧ w'.cell? ⟨pb, 2, none⟩ = some (.int .i64 p.time) ∧ w'.cell? ⟨pb, 3, none⟩ = some (.int .i64 p.seq) ∧ w'.cell? ⟨q, 0, none⟩ = some (.int .i64 h.frm) ∧ w'.cell? ⟨q, 1, none⟩ = some (.int .i64 h.seq)) := fun w' hf => ⟨(hf.cell (World.block_lt_of_cell? W2 _ bp0)).trans bp0, (hf.cell (World.block_lt_of_cell? W2 _ bp1)).trans bp1, (hf.cell (World.block_lt_of_cell? W2 _ bp2)).trans bp2, (hf.cell (World.block_lt_of_cell? W2 _ bp3)).trans bp3, (hf.cell (World.block_lt_of_cell? W2 _ bx0)).trans bx0, (hf.cell (World.block_lt_of_cell? W2 _ bx1)).trans bx1⟩
  obtain ⟨kf, hkf⟩ : ∃ kf, kf = findF p.keep h.frm h.seq := ⟨_, rfl⟩
  have FD : Hid (∀ W, Fr w W → Calls Tryz.prog 42 #[.agg #[.int .i64 p.me, .slice A n c, .int .i64 p.time, .int .i64 p.seq], .int .i64 h.frm, .int .i64 h.seq] W fun e w' => e = .returned (.int .i64 kf) ∧ Fr W w') := fun W hf => by
    rw [hkf]
    obtain ⟨A9, c9, e9, ⟨hc9, hm9⟩, hsl⟩ := (((H.out.fr hf).plM.own).ofHi sKp).slC sKp (by decide)
    injection e9 with e9 _ e10
    subst e9 e10
    rw [hn]
    exact keepFind_any W p.me p.time p.seq A _ c p.keep h.frm h.seq hsl (by unfold maxLen; omega)
  have HN := Lib.hid hn
  have HKF := Lib.hid hkf
  clear hbx hqx hn hkf bp0 bp1 bp2 bp3 bx0 bx1 bx2 bx3 bx4 bx5
  go_upto_region 3 with fail
  refine held_begin (n := 9) (bs := #[false, false, false, false, false, false, false, false, false]) rfl rfl (by kernel_rfl) (S := fun w' => w'.cell? ⟨pb, 0, none⟩ = some (.int .i64 p.me) ∧ w'.cell? ⟨pb, 1, none⟩ = some (.slice A n c) ∧ w'.cell? ⟨pb, 2, none⟩ = some (.int .i64 p.time) ∧ w'.cell? ⟨pb, 3, none⟩ = some (.int .i64 p.seq) ∧ w'.cell? ⟨q, 0, none⟩ = some (.int .i64 h.frm) ∧ w'.cell? ⟨q, 1, none⟩ = some (.int .i64 h.seq)) (hSC.out _ (Below.refl _ _).drew) (fun hHeld => ?_)
  ((first | refine held_sk (i := 0) ?_ | refine held_tk (i := 0) ?_); (first | refine held_sk (i := 1) ?_ | refine held_tk (i := 1) ?_); (first | refine held_sk (i := 2) ?_ | refine held_tk (i := 2) ?_); (first | refine held_sk (i := 3) ?_ | refine held_tk (i := 3) ?_); (first | refine held_sk (i := 4) ?_ | refine held_tk (i := 4) ?_); (first | refine held_sk (i := 5) ?_ | refine held_tk (i := 5) ?_); (first | refine held_sk (i := 6) ?_ | refine held_tk (i := 6) ?_))
  refine held_one (i := 7) rfl (by kernel_rfl) (fun K hK => ?_)
  go_simp
  go_at_call 42
  (with_reducible refine (FD.out _ (HF2'.out.trans (Below.refl _ _).drew)).mono ?_)
  rintro e w5 ⟨rfl, hf5⟩
  have HF25 : Hid (Fr W2 w5) := Fr.trans (Below.refl _ _).drew hf5
  (refine held_back hK (a' := ?hA16) (l' := ?hL16) ?ha16 ?hl16 (hSC.out _ HF25.out) (fun hHeld => ?hh16); (case ha16 => first | with_reducible rfl | (simp only [Act.put, hq1, hq2, hq3, Option.isNone, Bool.not_true, Bool.not_false]; (try with_reducible rfl))); (case hl16 => (simp only [Act.put, hq1, hq2, hq3, Option.isNone, Bool.not_true, Bool.not_false]; (try with_reducible rfl))); clear hK K)
  ((first | refine held_sk (i := 8) ?_ | refine held_tk (i := 8) ?_))
  refine wpAnyH_done (by kernel_rfl) ?_ _
  have HQ2 := Lib.hid (blk_go HQ.out (HF12.out.trans HF25.out))
  have HF2 : Hid (Fr w w5) := HF2'.out.trans HF25.out
  obtain ⟨W2, rfl⟩ : ∃ W2, W2 = w5 := ⟨_, rfl⟩
  clear hf5 hSC hHeld FD HF25 HF2' HF12 HF1
  have hbx := (H.out.fr HF2.out).blk
  rw [← HN.out] at hbx
  have hqx := HQ2.out
  (obtain ⟨bp0, bp1, bp2, bp3⟩ := box4_ hbx)
  (obtain ⟨bx0, bx1, bx2, bx3, bx4, bx5⟩ := box6_ hqx)
  clear hbx hqx
  obtain ⟨ft, hft⟩ : ∃ ft, ft = findAt h.frm h.seq p.keep := ⟨_, rfl⟩
  have HFT := Lib.hid hft
  rw [← hft] at E1
  have hkf2 := HKF.out
  unfold findF at hkf2
  rw [← hft] at hkf2
  clear hft
  cases ft with
  | some i =>
    simp only [] at hkf2
    subst hkf2
    obtain ⟨x, hx, hxe⟩ := findAt_some HFT.out.symm
    have hin : i < n := by rw [HN.out]; exact (List.getElem?_eq_some_iff.1 hx).1
    obtain ⟨g, cap, Ac, nc, cc, vS, vT, T, e1, hF, hav, hne, hnew⟩ := (H.out.fr HF2.out).all.foc hx |> fun _ => (H.out.fr HF2.out).all.foc2 hx
    injection e1 with e1 e2 e3
    subst e1 e3
    have HFO : Hid (Foc0 T W2 base g c p.keep i x Ac nc cc vS vT) := ⟨hF, hav, hne, hnew⟩
    have hgx : (p.keep[i]?).getD (Kp.fresh h) = x := by rw [hx]; rfl
    dsimp only at E1
    rw [hgx] at E1
    obtain ⟨m0, m1, m2, m3, m4, m5, _⟩ := hF.cells
    clear hav hne hnew hF e2 hgx hx hxe
    have hge : (0 : Int) ≤ (i : Int) := by omega
    have hin2 : (i : Int) < (n : Int) := by omega
    have hwi : IntKind.i64.wrap (i : Int) = (i : Int) := by have := HN.out; rw [IntKind.wrap_i64]; omega
    have hS5 : Hid (∀ w', Fr W2 w' → w'.cell? ⟨pb, 1, none⟩ = some (.slice (some ⟨g, 0, none⟩) n c) ∧ w'.cell? ⟨g, i * 16, none⟩ = some (.int .i64 x.h.frm) ∧ w'.cell? ⟨g, i * 16 + 1, none⟩ = some (.int .i64 x.h.seq) ∧ w'.cell? ⟨g, i * 16 + 2, none⟩ = some (.int .i64 x.h.to) ∧ w'.cell? ⟨g, i * 16 + 3, none⟩ = some (.int .i64 x.h.till) ∧ w'.cell? ⟨g, i * 16 + 4, none⟩ = some (.int .i64 x.h.bytes) ∧ w'.cell? ⟨g, i * 16 + 5, none⟩ = some (.int .i64 x.h.block) ∧ w'.cell? ⟨q, 0, none⟩ = some (.int .i64 h.frm) ∧ w'.cell? ⟨q, 1, none⟩ = some (.int .i64 h.seq) ∧ w'.cell? ⟨q, 2, none⟩ = some (.int .i64 h.to) ∧ w'.cell? ⟨q, 3, none⟩ = some (.int .i64 h.till) ∧ w'.cell? ⟨q, 4, none⟩ = some (.int .i64 h.bytes) ∧ w'.cell? ⟨q, 5, none⟩ = some (.int .i64 h.block)) := fun w' hf => ⟨(hf.cell (World.block_lt_of_cell? W2 _ bp1)).trans bp1, (hf.cell (World.block_lt_of_cell? W2 _ m0)).trans m0, (hf.cell (World.block_lt_of_cell? W2 _ m1)).trans m1, (hf.cell (World.block_lt_of_cell? W2 _ m2)).trans m2, (hf.cell (World.block_lt_of_cell? W2 _ m3)).trans m3, (hf.cell (World.block_lt_of_cell? W2 _ m4)).trans m4, (hf.cell (World.block_lt_of_cell? W2 _ m5)).trans m5, (hf.cell (World.block_lt_of_cell? W2 _ bx0)).trans bx0, (hf.cell (World.block_lt_of_cell? W2 _ bx1)).trans bx1, (hf.cell (World.block_lt_of_cell? W2 _ bx2)).trans bx2, (hf.cell (World.block_lt_of_cell? W2 _ bx3)).trans bx3, (hf.cell (World.block_lt_of_cell? W2 _ bx4)).trans bx4, (hf.cell (World.block_lt_of_cell? W2 _ bx5)).trans bx5⟩
    by_cases h3 : x.h = h
    · have E2 := Lib.hid (E1.out.trans (if_neg (fun e => e h3)))
      have hq := fun (V : World) => eqHd x.h h V
      rw [decide_eq_true h3] at hq
      clear E1 h3
      go_upto_region 5 with fail
      refine held_begin (n := 10) (bs := #[false, false, false, false, false, false, false, false, false, false]) rfl rfl (by kernel_rfl) (S := fun w' => w'.cell? ⟨pb, 1, none⟩ = some (.slice (some ⟨g, 0, none⟩) n c) ∧ w'.cell? ⟨g, i * 16, none⟩ = some (.int .i64 x.h.frm) ∧ w'.cell? ⟨g, i * 16 + 1, none⟩ = some (.int .i64 x.h.seq) ∧ w'.cell? ⟨g, i * 16 + 2, none⟩ = some (.int .i64 x.h.to) ∧ w'.cell? ⟨g, i * 16 + 3, none⟩ = some (.int .i64 x.h.till) ∧ w'.cell? ⟨g, i * 16 + 4, none⟩ = some (.int .i64 x.h.bytes) ∧ w'.cell? ⟨g, i * 16 + 5, none⟩ = some (.int .i64 x.h.block) ∧ w'.cell? ⟨q, 0, none⟩ = some (.int .i64 h.frm) ∧ w'.cell? ⟨q, 1, none⟩ = some (.int .i64 h.seq) ∧ w'.cell? ⟨q, 2, none⟩ = some (.int .i64 h.to) ∧ w'.cell? ⟨q, 3, none⟩ = some (.int .i64 h.till) ∧ w'.cell? ⟨q, 4, none⟩ = some (.int .i64 h.bytes) ∧ w'.cell? ⟨q, 5, none⟩ = some (.int .i64 h.block)) (hS5.out _ (Below.refl _ _).drew) (fun hHeld => ?_)
      ((first | refine held_sk (i := 0) ?_ | refine held_tk (i := 0) ?_); (first | refine held_sk (i := 1) ?_ | refine held_tk (i := 1) ?_); (first | refine held_sk (i := 2) ?_ | refine held_tk (i := 2) ?_); (first | refine held_sk (i := 3) ?_ | refine held_tk (i := 3) ?_); (first | refine held_sk (i := 4) ?_ | refine held_tk (i := 4) ?_); (first | refine held_sk (i := 5) ?_ | refine held_tk (i := 5) ?_); (first | refine held_sk (i := 6) ?_ | refine held_tk (i := 6) ?_); (first | refine held_sk (i := 7) ?_ | refine held_tk (i := 7) ?_); (first | refine held_sk (i := 8) ?_ | refine held_tk (i := 8) ?_); (first | refine held_sk (i := 9) ?_ | refine held_tk (i := 9) ?_))
      refine wpAnyH_done (by kernel_rfl) ?_ _
      clear hHeld
      go_wp2_with fail
      go_ret2
      have hFr : Fr w W2.drew := HF2.out.trans (Below.refl _ _).drew
      exact .inr ⟨p.keep, i, x, g, c, Ac, nc, cc, vS, vT, T, E2.out, rfl, hFr.chg, (H.out.fr hFr).blk, HFO.out.fr (Below.refl _ _).drew⟩
    · have E2 := Lib.hid (E1.out.trans (if_pos h3))
      have hq := fun (V : World) => eqHd x.h h V
      rw [decide_eq_false h3] at hq
      clear E1 h3
      go_upto_region 5 with fail
      refine held_begin (n := 10) (bs := #[false, false, false, false, false, false, false, false, false, false]) rfl rfl (by kernel_rfl) (S := fun w' => w'.cell? ⟨pb, 1, none⟩ = some (.slice (some ⟨g, 0, none⟩) n c) ∧ w'.cell? ⟨g, i * 16, none⟩ = some (.int .i64 x.h.frm) ∧ w'.cell? ⟨g, i * 16 + 1, none⟩ = some (.int .i64 x.h.seq) ∧ w'.cell? ⟨g, i * 16 + 2, none⟩ = some (.int .i64 x.h.to) ∧ w'.cell? ⟨g, i * 16 + 3, none⟩ = some (.int .i64 x.h.till) ∧ w'.cell? ⟨g, i * 16 + 4, none⟩ = some (.int .i64 x.h.bytes) ∧ w'.cell? ⟨g, i * 16 + 5, none⟩ = some (.int .i64 x.h.block) ∧ w'.cell? ⟨q, 0, none⟩ = some (.int .i64 h.frm) ∧ w'.cell? ⟨q, 1, none⟩ = some (.int .i64 h.seq) ∧ w'.cell? ⟨q, 2, none⟩ = some (.int .i64 h.to) ∧ w'.cell? ⟨q, 3, none⟩ = some (.int .i64 h.till) ∧ w'.cell? ⟨q, 4, none⟩ = some (.int .i64 h.bytes) ∧ w'.cell? ⟨q, 5, none⟩ = some (.int .i64 h.block)) (hS5.out _ (Below.refl _ _).drew) (fun hHeld => ?_)
      ((first | refine held_sk (i := 0) ?_ | refine held_tk (i := 0) ?_); (first | refine held_sk (i := 1) ?_ | refine held_tk (i := 1) ?_); (first | refine held_sk (i := 2) ?_ | refine held_tk (i := 2) ?_); (first | refine held_sk (i := 3) ?_ | refine held_tk (i := 3) ?_); (first | refine held_sk (i := 4) ?_ | refine held_tk (i := 4) ?_); (first | refine held_sk (i := 5) ?_ | refine held_tk (i := 5) ?_); (first | refine held_sk (i := 6) ?_ | refine held_tk (i := 6) ?_); (first | refine held_sk (i := 7) ?_ | refine held_tk (i := 7) ?_); (first | refine held_sk (i := 8) ?_ | refine held_tk (i := 8) ?_); (first | refine held_sk (i := 9) ?_ | refine held_tk (i := 9) ?_))
      refine wpAnyH_done (by kernel_rfl) ?_ _
      clear hHeld
      go_wp2_with fail
      go_ret2
      exact FIN.out _ _ _ (by (repeat' (first | exact Below.refl _ _ | refine below_drewN ?_ _ | refine Below.drew ?_ | refine frA ?_ _ | refine Fr.trans ?_ HF2.out))) (by decide) E2.out
  | none =>
    simp only [] at hkf2
    subst hkf2
    dsimp only at E1
    by_cases h2 : h.frm = p.me
    · have E2 := Lib.hid (E1.out.trans (if_pos h2))
      have t2 : (h.frm == p.me) = true := by simp [h2]
      clear E1 h2
      go_upto_region 8 with fail
      go_quiet (fail)
      go_wp2_with fail
      go_ret2
      exact FIN.out _ _ _ (by (repeat' (first | exact Below.refl _ _ | refine below_drewN ?_ _ | refine Below.drew ?_ | refine frA ?_ _ | refine Fr.trans ?_ HF2.out))) (by decide) E2.out
    · have E2 := Lib.hid (E1.out.trans (if_neg h2))
      have t2 : (h.frm == p.me) = false := by simp [h2]
      clear E1 h2
      go_upto_region 8 with fail
      go_quiet (fail)
      go_upto_region 10 with fail
      obtain ⟨W4, hW4⟩ : ∃ W4, W4 = W2.drewN nq := ⟨_, rfl⟩
      have HF24 : Hid (Fr W2 W4) := by rw [hW4]; exact below_drewN (Below.refl _ _) _
      rw [← hW4]
      have HF4 : Hid (Fr w W4) := HF2.out.trans HF24.out
      have HQ4 := Lib.hid (blk_go HQ2.out HF24.out)
      clear hW4 HF24 HF2 HQ2 t2 bp0 bp1 bp2 bp3 bx0 bx1 bx2 bx3 bx4 bx5
      obtain ⟨W2, rfl⟩ : ∃ W2, W2 = W4 := ⟨_, rfl⟩
      have HF2 := HF4
      have HQ2 := HQ4
      have hbx := (H.out.fr HF2.out).blk
      rw [← HN.out] at hbx
      have hqx := HQ2.out
      (obtain ⟨bp0, bp1, bp2, bp3⟩ := box4_ hbx)
      (obtain ⟨bx0, bx1, bx2, bx3, bx4, bx5⟩ := box6_ hqx)
      clear hbx hqx
      rw [← HN.out] at h12 E2
      by_cases h6 : n = 12
      · have E3 := Lib.hid (E2.out.trans (if_pos h6))
        have t6 : ((n : Int) == 12) = true := by simp [h6]
        clear E2 h6
        go_wp2_with fail
        go_ret2
        exact FIN.out _ _ _ HF2.out (by decide) E3.out
      · have E6 := Lib.hid (E2.out.trans (if_neg h6))
        have t6 : ((n : Int) == 12) = false := by simp; omega
        have h11 : n ≤ 11 := by omega
        clear E2 h6 h12 FIN
        obtain ⟨A9, c9, e9, ⟨hc9, hm9⟩, hsl⟩ := (((H.out.fr HF2.out).plM.own).ofHi sKp).slC sKp (by decide)
        injection e9 with e9 _ e10
        subst e9 e10
        rw [← HN.out] at hsl hc9
        have HSL := Lib.hid hsl
        obtain ⟨pa, hpa⟩ : ∃ pa, pa = placeAt p.keep h := ⟨_, rfl⟩
        have HPA : Hid (pa = 0 + ((p.keep.drop 0).takeWhile fun y => aheadB y.h h).length) := by rw [Hid, List.drop_zero, hpa, Nat.zero_add]; rfl
        (have Hpa := Lib.hid hpa; clear hpa)
        clear hsl
        go_wp2_with fail
        go_loopw [7] (fun s7 wr => ∃ k : Nat, k ≤ n ∧ s7 = .int .i64 k ∧ Hid (pa = k + ((p.keep.drop k).takeWhile fun y => aheadB y.h h).length) ∧ Hid (Fr W2 wr)) (fun i _ => n - (intOf i).toNat)
        case atStart => exact ⟨0, Nat.zero_le _, rfl, HPA, Below.refl _ _⟩
        case round =>
          obtain ⟨k, hk, rfl, HS, HF⟩ := hrel
          have hbx := (H.out.fr (HF2.out.trans HF.out)).blk
          rw [← HN.out] at hbx
          have hqx := blk_go HQ2.out HF.out
          clear bp0 bp1 bp2 bp3 bx0 bx1 bx2 bx3 bx4 bx5
          (obtain ⟨bp0, bp1, bp2, bp3⟩ := box4_ hbx)
          (obtain ⟨bx0, bx1, bx2, bx3, bx4, bx5⟩ := box6_ hqx)
          clear hbx hqx bp0 bp2 bp3
          by_cases hlt : k < n
          · obtain ⟨ad, hAd, hE⟩ := (HSL.out.go sKp HF.out).els (by omega)
            subst hAd
            obtain ⟨y, hy, hr⟩ := hE.row hlt
            obtain ⟨A1, n1', c1, A2, n2, c2, A3, n3, c3, ⟨m0, m1, m2, m3, m4, m5, _⟩, _⟩ := eKp_at hr
            have hSC : Hid (∀ w', Fr wr w' → w'.cell? ⟨pb, 1, none⟩ = some (.slice (some ad) n c) ∧ w'.cell? (ad.add (k * 16)) = some (.int .i64 y.h.frm) ∧ w'.cell? ⟨(ad.add (k * 16)).block, (ad.add (k * 16)).off + 1, none⟩ = some (.int .i64 y.h.seq) ∧ w'.cell? ⟨(ad.add (k * 16)).block, (ad.add (k * 16)).off + 2, none⟩ = some (.int .i64 y.h.to) ∧ w'.cell? ⟨(ad.add (k * 16)).block, (ad.add (k * 16)).off + 3, none⟩ = some (.int .i64 y.h.till) ∧ w'.cell? ⟨(ad.add (k * 16)).block, (ad.add (k * 16)).off + 4, none⟩ = some (.int .i64 y.h.bytes) ∧ w'.cell? ⟨(ad.add (k * 16)).block, (ad.add (k * 16)).off + 5, none⟩ = some (.int .i64 y.h.block) ∧ w'.cell? ⟨q, 0, none⟩ = some (.int .i64 h.frm) ∧ w'.cell? ⟨q, 1, none⟩ = some (.int .i64 h.seq) ∧ w'.cell? ⟨q, 2, none⟩ = some (.int .i64 h.to) ∧ w'.cell? ⟨q, 3, none⟩ = some (.int .i64 h.till) ∧ w'.cell? ⟨q, 4, none⟩ = some (.int .i64 h.bytes) ∧ w'.cell? ⟨q, 5, none⟩ = some (.int .i64 h.block)) := fun w' hf => ⟨(hf.cell (World.block_lt_of_cell? wr _ bp1)).trans bp1, (hf.cell (World.block_lt_of_cell? wr _ m0)).trans m0, (hf.cell (World.block_lt_of_cell? wr _ m1)).trans m1, (hf.cell (World.block_lt_of_cell? wr _ m2)).trans m2, (hf.cell (World.block_lt_of_cell? wr _ m3)).trans m3, (hf.cell (World.block_lt_of_cell? wr _ m4)).trans m4, (hf.cell (World.block_lt_of_cell? wr _ m5)).trans m5, (hf.cell (World.block_lt_of_cell? wr _ bx0)).trans bx0, (hf.cell (World.block_lt_of_cell? wr _ bx1)).trans bx1, (hf.cell (World.block_lt_of_cell? wr _ bx2)).trans bx2, (hf.cell (World.block_lt_of_cell? wr _ bx3)).trans bx3, (hf.cell (World.block_lt_of_cell? wr _ bx4)).trans bx4, (hf.cell (World.block_lt_of_cell? wr _ bx5)).trans bx5⟩
            obtain ⟨ab, hab⟩ : ∃ ab, ab = aheadB y.h h := ⟨_, rfl⟩
            have AH : Hid (∀ W, Calls Tryz.prog 99 #[.agg #[.int .i64 y.h.frm, .int .i64 y.h.seq, .int .i64 y.h.to, .int .i64 y.h.till, .int .i64 y.h.bytes, .int .i64 y.h.block], .agg #[.int .i64 h.frm, .int .i64 h.seq, .int .i64 h.to, .int .i64 h.till, .int .i64 h.bytes, .int .i64 h.block]] W fun e w' => e = .returned (.bool ab) ∧ Fr W w') := fun W => by rw [hab]; exact ahead_any W _ _
            have hlt2 : (k : Int) < (n : Int) := by omega
            have HYY := Lib.hid hy
            have HAB := Lib.hid hab
            clear hE hy hr hab m0 m1 m2 m3 m4 m5 bp1 bx0 bx1 bx2 bx3 bx4 bx5
            go_upto_region 13 with fail
            refine held_begin (n := 19) (bs := #[false, false, false, false, false, false, false, false, false, false, false, false, false, false, false, false, false, false, false]) rfl rfl (by kernel_rfl) (S := fun w' => w'.cell? ⟨pb, 1, none⟩ = some (.slice (some ad) n c) ∧ w'.cell? (ad.add (k * 16)) = some (.int .i64 y.h.frm) ∧ w'.cell? ⟨(ad.add (k * 16)).block, (ad.add (k * 16)).off + 1, none⟩ = some (.int .i64 y.h.seq) ∧ w'.cell? ⟨(ad.add (k * 16)).block, (ad.add (k * 16)).off + 2, none⟩ = some (.int .i64 y.h.to) ∧ w'.cell? ⟨(ad.add (k * 16)).block, (ad.add (k * 16)).off + 3, none⟩ = some (.int .i64 y.h.till) ∧ w'.cell? ⟨(ad.add (k * 16)).block, (ad.add (k * 16)).off + 4, none⟩ = some (.int .i64 y.h.bytes) ∧ w'.cell? ⟨(ad.add (k * 16)).block, (ad.add (k * 16)).off + 5, none⟩ = some (.int .i64 y.h.block) ∧ w'.cell? ⟨q, 0, none⟩ = some (.int .i64 h.frm) ∧ w'.cell? ⟨q, 1, none⟩ = some (.int .i64 h.seq) ∧ w'.cell? ⟨q, 2, none⟩ = some (.int .i64 h.to) ∧ w'.cell? ⟨q, 3, none⟩ = some (.int .i64 h.till) ∧ w'.cell? ⟨q, 4, none⟩ = some (.int .i64 h.bytes) ∧ w'.cell? ⟨q, 5, none⟩ = some (.int .i64 h.block)) (hSC.out _ (Below.refl _ _).drew) (fun hHeld => ?_)
            ((first | refine held_sk (i := 0) ?_ | refine held_tk (i := 0) ?_); (first | refine held_sk (i := 1) ?_ | refine held_tk (i := 1) ?_); (first | refine held_sk (i := 2) ?_ | refine held_tk (i := 2) ?_); (first | refine held_sk (i := 3) ?_ | refine held_tk (i := 3) ?_); (first | refine held_sk (i := 4) ?_ | refine held_tk (i := 4) ?_); (first | refine held_sk (i := 5) ?_ | refine held_tk (i := 5) ?_); (first | refine held_sk (i := 6) ?_ | refine held_tk (i := 6) ?_); (first | refine held_sk (i := 7) ?_ | refine held_tk (i := 7) ?_); (first | refine held_sk (i := 8) ?_ | refine held_tk (i := 8) ?_); (first | refine held_sk (i := 9) ?_ | refine held_tk (i := 9) ?_); (first | refine held_sk (i := 10) ?_ | refine held_tk (i := 10) ?_); (first | refine held_sk (i := 11) ?_ | refine held_tk (i := 11) ?_); (first | refine held_sk (i := 12) ?_ | refine held_tk (i := 12) ?_); (first | refine held_sk (i := 13) ?_ | refine held_tk (i := 13) ?_); (first | refine held_sk (i := 14) ?_ | refine held_tk (i := 14) ?_); (first | refine held_sk (i := 15) ?_ | refine held_tk (i := 15) ?_); (first | refine held_sk (i := 16) ?_ | refine held_tk (i := 16) ?_))
            refine held_one (i := 17) rfl (by kernel_rfl) (fun K hK => ?_)
            go_simp
            go_at_call 99
            (with_reducible refine (AH.out _).mono ?_)
            rintro e w7 ⟨rfl, hf7⟩
            have hf67 : Fr wr w7 := Fr.trans (Below.refl _ _).drew hf7
            (refine held_back hK (a' := ?hA17) (l' := ?hL17) ?ha17 ?hl17 (hSC.out _ hf67) (fun hHeld => ?hh17); (case ha17 => first | with_reducible rfl | (simp only [Act.put, hq1, hq2, hq3, Option.isNone, Bool.not_true, Bool.not_false]; (try with_reducible rfl))); (case hl17 => (simp only [Act.put, hq1, hq2, hq3, Option.isNone, Bool.not_true, Bool.not_false]; (try with_reducible rfl))); clear hK K)
            ((first | refine held_sk (i := 18) ?_ | refine held_tk (i := 18) ?_))
            refine wpAnyH_done (by kernel_rfl) ?_ _
            have HF7 : Hid (Fr W2 w7) := HF.out.trans hf67
            clear hSC AH hHeld hf7 hf67
            cases ab with
            | true =>
              have HS2 : Hid (pa = k + 1 + ((p.keep.drop (k + 1)).takeWhile fun y => aheadB y.h h).length) := by rw [Hid, HS.out, placeAt_step HYY.out HAB.out.symm]; omega
              go_wp2_with fail
              go_roundw
              case rel => exact ⟨k + 1, by omega, by go_num, HS2, HF7⟩
              case measure => simp [intOf]; omega
            | false =>
              have hkp : pa = k := by rw [HS.out, placeAt_stop HYY.out HAB.out.symm]; omega
              subst hkp
              clear HAB HYY HS
              obtain ⟨W3, hW3⟩ : ∃ W3, W3 = w7 := ⟨_, rfl⟩
              have HF23 : Hid (Fr W2 W3) := by rw [hW3]; exact HF7.out
              rw [← hW3]
              clear hW3
              have HF3 : Hid (Fr w W3) := HF2.out.trans HF23.out
              have H3 : Hid (PlM W3 base pb p (some ad) c) := (H.out.fr HF3.out).plM
              have HQ3 := Lib.hid (blk_go HQ2.out HF23.out)
              have hbx := H3.out.blk
              rw [← HN.out] at hbx
              have hqx := HQ3.out
              (obtain ⟨bp0, bp1, bp2, bp3⟩ := box4_ hbx)
              (obtain ⟨bx0, bx1, bx2, bx3, bx4, bx5⟩ := box6_ hqx)
              have hSC : Hid (∀ w', Fr W3 w' → w'.cell? ⟨pb, 1, none⟩ = some (.slice (some ad) n c) ∧ w'.cell? ⟨q, 0, none⟩ = some (.int .i64 h.frm) ∧ w'.cell? ⟨q, 1, none⟩ = some (.int .i64 h.seq) ∧ w'.cell? ⟨q, 2, none⟩ = some (.int .i64 h.to) ∧ w'.cell? ⟨q, 3, none⟩ = some (.int .i64 h.till) ∧ w'.cell? ⟨q, 4, none⟩ = some (.int .i64 h.bytes) ∧ w'.cell? ⟨q, 5, none⟩ = some (.int .i64 h.block)) := fun w' hf => ⟨(hf.cell (World.block_lt_of_cell? W3 _ bp1)).trans bp1, (hf.cell (World.block_lt_of_cell? W3 _ bx0)).trans bx0, (hf.cell (World.block_lt_of_cell? W3 _ bx1)).trans bx1, (hf.cell (World.block_lt_of_cell? W3 _ bx2)).trans bx2, (hf.cell (World.block_lt_of_cell? W3 _ bx3)).trans bx3, (hf.cell (World.block_lt_of_cell? W3 _ bx4)).trans bx4, (hf.cell (World.block_lt_of_cell? W3 _ bx5)).trans bx5⟩
              clear hbx hqx bp0 bp1 bp2 bp3 bx0 bx1 bx2 bx3 bx4 bx5
              go_upto_region 15 with fail
              refine last_begin 12 (n := 13) (bs := #[false, false, false, false, false, false, false, false, false, false, false, false, false]) rfl rfl (by kernel_rfl) (S := fun w' => w'.cell? ⟨pb, 1, none⟩ = some (.slice (some ad) n c) ∧ w'.cell? ⟨q, 0, none⟩ = some (.int .i64 h.frm) ∧ w'.cell? ⟨q, 1, none⟩ = some (.int .i64 h.seq) ∧ w'.cell? ⟨q, 2, none⟩ = some (.int .i64 h.to) ∧ w'.cell? ⟨q, 3, none⟩ = some (.int .i64 h.till) ∧ w'.cell? ⟨q, 4, none⟩ = some (.int .i64 h.bytes) ∧ w'.cell? ⟨q, 5, none⟩ = some (.int .i64 h.block)) (hSC.out _ (Below.refl _ _).drew) (fun hHeld => ?_)
              ((first | refine last_sk (i := 0) ?_ | refine last_tk (i := 0) ?_); (first | refine last_sk (i := 1) ?_ | refine last_tk (i := 1) ?_); (first | refine last_sk (i := 2) ?_ | refine last_tk (i := 2) ?_); (first | refine last_sk (i := 3) ?_ | refine last_tk (i := 3) ?_); (first | refine last_sk (i := 4) ?_ | refine last_tk (i := 4) ?_); (first | refine last_sk (i := 5) ?_ | refine last_tk (i := 5) ?_); (first | refine last_sk (i := 6) ?_ | refine last_tk (i := 6) ?_); (first | refine last_sk (i := 7) ?_ | refine last_tk (i := 7) ?_))
              refine last_one (i := 8) rfl (by kernel_rfl) (fun K hK => ?_)
              go_simp
              have HF5 : Hid (Fr W3 W3.drew) := (Below.refl _ _).drew
              obtain ⟨W6, hW6⟩ : ∃ W6, W6 = (W3.alloc (.cells #[.int .i64 h.frm, .int .i64 h.seq, .int .i64 h.to, .int .i64 h.till, .int .i64 h.bytes, .int .i64 h.block, .bool false, .slice none 0 0, .slice none 0 0, .int .i64 0, .int .i64 0, .int .i64 0, .int .i64 0, .slice none 0 0, .bool false, .bool false] 96)).drew := ⟨_, rfl⟩
              obtain ⟨vb, hvb⟩ : ∃ vb, vb = W3.heap.size := ⟨_, rfl⟩
              have HV6 : Hid (W6.heap[vb]? = some (.cells (kpCells (Kp.fresh h) none 0 0 (.slice none 0 0) (.slice none 0 0)).toArray 96 (0, 0))) := by rw [hW6]; exact heap_d (heap_new hvb)
              have HF36 : Hid (Fr W3 W6) := by rw [hW6]; exact (frAlloc _ _).drew
              have H6 : Hid (PlM W6 base pb p (some ad) c) := H3.out.fr HF36.out
              have HO6 : Hid (Own 16 (eHi base eKq) W6 base 96 (.slice (some ad) n c) (p.keep.map fun x => (false, x))) := by
                have := H6.out.own.toQ
                rw [← HN.out] at this
                exact this
              have HX6 : Hid (eHi base eKq W6 (fun b => b < W6.heap.size ∧ (Value.slice (some ad) n c).ownBlock ≠ some b) (fun j => (kpCells (Kp.fresh h) none 0 0 (.slice none 0 0) (.slice none 0 0))[j]?) (true, Kp.fresh h)) := by
                have w0 : wfI 0 := wfI.mk (by decide)
                exact ⟨eKp_iff.2 ⟨none, 0, 0, none, 0, 0, none, 0, 0, ⟨rfl, rfl, rfl, rfl, rfl, rfl, rfl, rfl, rfl, rfl, rfl, rfl, rfl, rfl, rfl, rfl⟩, ⟨hwh, w0, w0, w0, w0⟩, ⟨⟨by unfold lim; omega, by omega, by unfold maxLen; omega⟩, Sl.nil⟩, ⟨⟨by unfold lim; omega, by omega, by unfold maxLen; omega⟩, Sl.nil⟩, ⟨by unfold lim; omega, by omega, by unfold maxLen; omega⟩, Sl.nil⟩, fun e => ⟨rfl, rfl, rfl⟩⟩
              rw [← hW6, ← hvb]
              have HVB := Lib.hid hvb
              clear hW6 hvb
              (refine last_back hK (a' := ?hA9) (l' := ?hL9) ?ha9 ?hl9 (hSC.out _ HF36.out) (fun hHeld => ?hh9); (case ha9 => first | with_reducible rfl | (simp only [Act.put, hq1, hq2, hq3, Option.isNone, Bool.not_true, Bool.not_false]; (try with_reducible rfl))); (case hl9 => (simp only [Act.put, hq1, hq2, hq3, Option.isNone, Bool.not_true, Bool.not_false]; (try with_reducible rfl))); clear hK K)
              refine last_one (i := 9) rfl (by kernel_rfl) (fun K hK => ?_)
              go_simp
              go_at_call 140
              with_reducible refine (insertKepts_own (N := base) W6 base pa vb (.slice (some ad) n c) (p.keep.map fun x => (false, x)) (true, Kp.fresh h) (kpCells (Kp.fresh h) none 0 0 (.slice none 0 0) (.slice none 0 0)) 96 HO6.out (by rw [List.length_map, ← HN.out]; omega) HV6.out (fun e => by have := (HO6.out.ge e).2; have h1 := H3.out.own; rw [← HN.out] at h1; have := (h1.ge e).2; have := HVB.out; omega) rfl (by simp [kpCells, Value.oneCell']) HX6.out (by rw [List.length_map, ← HN.out]; unfold lim; omega) (by have := HF3.out.size; have := HF36.out.size; omega)).mono ?_
              rintro e w7 ⟨v7, rfl, ho7, hg7⟩
              have hno : ∀ b, (Value.slice (some ad) n c).ownBlock = some b → base ≤ b ∧ b < w.heap.size := fun b hb => by
                have h1 := H.out.plM.own
                rw [← HN.out] at h1
                exact h1.ge hb
              have hk7 : Chg (fun b => (Value.slice (some ad) n c).ownBlock = some b) W6 w7 := ⟨hg7.os, hg7.tape, hg7.output, hg7.size, fun b hb hs => hg7.block b hb fun e => hs e.symm⟩
              have hno1 : ¬ (Value.slice (some ad) n c).ownBlock = some pb := fun e => by have := hno _ e; omega
              have hno2 : ¬ (Value.slice (some ad) n c).ownBlock = some q := fun e => by have := hno _ e; have := HQW.out; omega
              have hS7 : w7.cell? ⟨pb, 1, none⟩ = some (.slice (some ad) n c) ∧ w7.cell? ⟨q, 0, none⟩ = some (.int .i64 h.frm) ∧ w7.cell? ⟨q, 1, none⟩ = some (.int .i64 h.seq) ∧ w7.cell? ⟨q, 2, none⟩ = some (.int .i64 h.to) ∧ w7.cell? ⟨q, 3, none⟩ = some (.int .i64 h.till) ∧ w7.cell? ⟨q, 4, none⟩ = some (.int .i64 h.bytes) ∧ w7.cell? ⟨q, 5, none⟩ = some (.int .i64 h.block) := by
                obtain ⟨k1, k2, k3, k4, k5, k6, k7⟩ := hSC.out _ HF36.out
                exact ⟨(hk7.cell (World.block_lt_of_cell? W6 _ k1) hno1).trans k1, (hk7.cell (World.block_lt_of_cell? W6 _ k2) hno2).trans k2, (hk7.cell (World.block_lt_of_cell? W6 _ k3) hno2).trans k3, (hk7.cell (World.block_lt_of_cell? W6 _ k4) hno2).trans k4, (hk7.cell (World.block_lt_of_cell? W6 _ k5) hno2).trans k5, (hk7.cell (World.block_lt_of_cell? W6 _ k6) hno2).trans k6, (hk7.cell (World.block_lt_of_cell? W6 _ k7) hno2).trans k7⟩
              have hb7 := hk7.blk H6.out.blk hno1
              rw [← HN.out] at hb7
              have hlk : (List.take pa (p.keep.map fun x => (false, x))).length = pa := by rw [List.length_take, List.length_map, ← HN.out]; omega
              have e1 : (List.take pa (p.keep.map fun x => (false, x)) ++ (true, Kp.fresh h) :: List.drop pa (p.keep.map fun x => (false, x))).map (·.2) = insKp p.keep (Kp.fresh h) := by
                unfold insKp
                rw [show placeAt p.keep (Kp.fresh h).h = pa from Hpa.out.symm]
                simp [List.map_take, List.map_drop, List.map_map, Function.comp_def]
              obtain ⟨g7, cap7, T7, rfl, hF7, hT7⟩ := ho7.focNew2 (i := pa) (x := Kp.fresh h) (by rw [List.getElem?_append_right (by rw [hlk]; exact Nat.le_refl _), hlk, Nat.sub_self]; rfl) rfl rfl rfl
              have elen : (List.take pa (p.keep.map fun x => (false, x)) ++ (true, Kp.fresh h) :: List.drop pa (p.keep.map fun x => (false, x))).length = (insKp p.keep (Kp.fresh h)).length := by rw [← e1, List.length_map]
              rw [e1] at hF7
              rw [elen]
              have HF7 := Lib.hid hF7
              have HT7 := Lib.hid hT7
              have HK7 := Lib.hid hk7
              clear e1 elen hlk hF7 hT7
              obtain ⟨ln, hln⟩ : ∃ ln, ln = (insKp p.keep (Kp.fresh h)).length := ⟨_, rfl⟩
              rw [← hln]
              have HLN := Lib.hid hln
              clear hln
              (refine last_back hK (a' := ?hA10) (l' := ?hL10) ?ha10 ?hl10 (hS7) (fun hHeld => ?hh10); (case ha10 => first | with_reducible rfl | (simp only [Act.put, hq1, hq2, hq3, Option.isNone, Bool.not_true, Bool.not_false]; (try with_reducible rfl))); (case hl10 => (simp only [Act.put, hq1, hq2, hq3, Option.isNone, Bool.not_true, Bool.not_false]; (try with_reducible rfl))); clear hK K)
              refine last_one (i := 10) rfl (by kernel_rfl) (fun K hK => ?_)
              go_simp
              (refine last_back hK (a' := ?hA11) (l' := ?hL11) ?ha11 ?hl11 (hS7) (fun hHeld => ?hh11); (case ha11 => first | with_reducible rfl | (simp only [Act.put, hq1, hq2, hq3, Option.isNone, Bool.not_true, Bool.not_false]; (try with_reducible rfl))); (case hl11 => (simp only [Act.put, hq1, hq2, hq3, Option.isNone, Bool.not_true, Bool.not_false]; (try with_reducible rfl))); clear hK K)
              ((first | refine last_sk (i := 11) ?_ | refine last_tk (i := 11) ?_))
              have y1 := blk_free (i := 1) hb7
              have hpl7 := (Array.getElem?_eq_some_iff.1 hb7).1
              have mp1 := hS7.1
              refine last_one (i := 12) rfl (by kernel_rfl) (fun K hK => ?_)
              go_simp
              refine last_end hK (by kernel_rfl) ?_
              clear hK K
              obtain ⟨W8, hW8⟩ : ∃ W8, W8 = w7.setCell ⟨pb, 1, none⟩ (.slice (some ⟨g7, 0, none⟩) ln cap7) := ⟨_, rfl⟩
              have hb8 : W8.heap[pb]? = some (.cells #[.int .i64 p.me, .slice (some ⟨g7, 0, none⟩) ln cap7, .int .i64 p.time, .int .i64 p.seq] 25 (0, 0)) := by rw [hW8]; have := heap_setCell_same w7 pb 1 _ _ (.slice (some ⟨g7, 0, none⟩) ln cap7) hb7; simpa using this
              have hk8 : Chg (fun b => b = pb) w7 W8 := by rw [hW8]; exact Chg.set (S := fun b => b = pb) (p := ⟨pb, 1, none⟩) (Chg.refl _ _) rfl _
              rw [← hW8]
              (obtain ⟨bp0, bp1, bp2, bp3⟩ := box4_ hb8)
              have hil : pa < ln := by rw [HLN.out]; exact HF7.out.hi
              have HX8 : Hid (Foc0 T7 W8 base g7 cap7 (insKp p.keep (Kp.fresh h)) pa (Kp.fresh h) none 0 0 (.slice none 0 0) (.slice none 0 0)) :=
                ⟨HF7.out.chg hk8 (by have := HF7.out.hbg; omega) (fun b hb => by have := (HF7.out.low b hb).1; omega) (fun b e => (by cases e)) (fun b e => (by cases e)), fun b _ => ⟨fun e => (by cases e), fun e => (by cases e)⟩, fun b e => (by cases e), fun b hb => HT7.out b (Nat.le_trans hk8.size hb)⟩
              have HC8 : Hid (Chg (BunS pb (.slice (some ad) p.keep.length c)) w W8) := by
                rw [← HN.out]
                have q1 : Chg (BunS pb (.slice (some ad) n c)) w W6 := (HF3.out.trans HF36.out).chg
                have q2 : Chg (BunS pb (.slice (some ad) n c)) W6 w7 := HK7.out.more fun b hb => .inr hb
                exact (q1.trans q2).trans (hk8.more fun b hb => .inl hb)
              have HB8 := Lib.hid hb8
              clear hb7 hb8 hk8 hk7 hW8 hS7 y1 hpl7 mp1 hno hno1 hno2 hSC
              go_wp2_with fail
              go_ret2
              refine .inr ⟨insKp p.keep (Kp.fresh h), pa, Kp.fresh h, g7, cap7, none, 0, 0, .slice none 0 0, .slice none 0 0, T7, by rw [E6.out, Hpa.out], rfl, HC8.out, by rw [← HLN.out]; exact HB8.out, HX8.out⟩
          · have hkn : k = n := by omega
            have hkp : pa = k := by rw [HS.out, List.drop_eq_nil_of_le (by rw [← HN.out]; omega)]; simp
            subst hkp
            have tk : decide ((pa : Int) < (n : Int)) = false := by simp; omega
            clear hkn HS
            go_upto_region 13 with fail
            go_quiet (fail)
            obtain ⟨W3, hW3⟩ : ∃ W3, W3 = (wr.drewN nq) := ⟨_, rfl⟩
            have HF23 : Hid (Fr W2 W3) := by rw [hW3]; exact (by (repeat' (first | exact Below.refl _ _ | refine below_drewN ?_ _ | refine Below.drew ?_ | refine frA ?_ _ | refine Fr.trans ?_ HF.out)))
            rw [← hW3]
            clear hW3
            have HF3 : Hid (Fr w W3) := HF2.out.trans HF23.out
            have H3 : Hid (PlM W3 base pb p A c) := (H.out.fr HF3.out).plM
            have HQ3 := Lib.hid (blk_go HQ2.out HF23.out)
            have hbx := H3.out.blk
            rw [← HN.out] at hbx
            have hqx := HQ3.out
            (obtain ⟨bp0, bp1, bp2, bp3⟩ := box4_ hbx)
            (obtain ⟨bx0, bx1, bx2, bx3, bx4, bx5⟩ := box6_ hqx)
            have hSC : Hid (∀ w', Fr W3 w' → w'.cell? ⟨pb, 1, none⟩ = some (.slice A n c) ∧ w'.cell? ⟨q, 0, none⟩ = some (.int .i64 h.frm) ∧ w'.cell? ⟨q, 1, none⟩ = some (.int .i64 h.seq) ∧ w'.cell? ⟨q, 2, none⟩ = some (.int .i64 h.to) ∧ w'.cell? ⟨q, 3, none⟩ = some (.int .i64 h.till) ∧ w'.cell? ⟨q, 4, none⟩ = some (.int .i64 h.bytes) ∧ w'.cell? ⟨q, 5, none⟩ = some (.int .i64 h.block)) := fun w' hf => ⟨(hf.cell (World.block_lt_of_cell? W3 _ bp1)).trans bp1, (hf.cell (World.block_lt_of_cell? W3 _ bx0)).trans bx0, (hf.cell (World.block_lt_of_cell? W3 _ bx1)).trans bx1, (hf.cell (World.block_lt_of_cell? W3 _ bx2)).trans bx2, (hf.cell (World.block_lt_of_cell? W3 _ bx3)).trans bx3, (hf.cell (World.block_lt_of_cell? W3 _ bx4)).trans bx4, (hf.cell (World.block_lt_of_cell? W3 _ bx5)).trans bx5⟩
            clear hbx hqx bp0 bp1 bp2 bp3 bx0 bx1 bx2 bx3 bx4 bx5
            go_upto_region 15 with fail
            refine last_begin 12 (n := 13) (bs := #[false, false, false, false, false, false, false, false, false, false, false, false, false]) rfl rfl (by kernel_rfl) (S := fun w' => w'.cell? ⟨pb, 1, none⟩ = some (.slice A n c) ∧ w'.cell? ⟨q, 0, none⟩ = some (.int .i64 h.frm) ∧ w'.cell? ⟨q, 1, none⟩ = some (.int .i64 h.seq) ∧ w'.cell? ⟨q, 2, none⟩ = some (.int .i64 h.to) ∧ w'.cell? ⟨q, 3, none⟩ = some (.int .i64 h.till) ∧ w'.cell? ⟨q, 4, none⟩ = some (.int .i64 h.bytes) ∧ w'.cell? ⟨q, 5, none⟩ = some (.int .i64 h.block)) (hSC.out _ (Below.refl _ _).drew) (fun hHeld => ?_)
            ((first | refine last_sk (i := 0) ?_ | refine last_tk (i := 0) ?_); (first | refine last_sk (i := 1) ?_ | refine last_tk (i := 1) ?_); (first | refine last_sk (i := 2) ?_ | refine last_tk (i := 2) ?_); (first | refine last_sk (i := 3) ?_ | refine last_tk (i := 3) ?_); (first | refine last_sk (i := 4) ?_ | refine last_tk (i := 4) ?_); (first | refine last_sk (i := 5) ?_ | refine last_tk (i := 5) ?_); (first | refine last_sk (i := 6) ?_ | refine last_tk (i := 6) ?_); (first | refine last_sk (i := 7) ?_ | refine last_tk (i := 7) ?_))
            refine last_one (i := 8) rfl (by kernel_rfl) (fun K hK => ?_)
            go_simp
            have HF5 : Hid (Fr W3 W3.drew) := (Below.refl _ _).drew
            obtain ⟨W6, hW6⟩ : ∃ W6, W6 = (W3.alloc (.cells #[.int .i64 h.frm, .int .i64 h.seq, .int .i64 h.to, .int .i64 h.till, .int .i64 h.bytes, .int .i64 h.block, .bool false, .slice none 0 0, .slice none 0 0, .int .i64 0, .int .i64 0, .int .i64 0, .int .i64 0, .slice none 0 0, .bool false, .bool false] 96)).drew := ⟨_, rfl⟩
            obtain ⟨vb, hvb⟩ : ∃ vb, vb = W3.heap.size := ⟨_, rfl⟩
            have HV6 : Hid (W6.heap[vb]? = some (.cells (kpCells (Kp.fresh h) none 0 0 (.slice none 0 0) (.slice none 0 0)).toArray 96 (0, 0))) := by rw [hW6]; exact heap_d (heap_new hvb)
            have HF36 : Hid (Fr W3 W6) := by rw [hW6]; exact (frAlloc _ _).drew
            have H6 : Hid (PlM W6 base pb p A c) := H3.out.fr HF36.out
            have HO6 : Hid (Own 16 (eHi base eKq) W6 base 96 (.slice A n c) (p.keep.map fun x => (false, x))) := by
              have := H6.out.own.toQ
              rw [← HN.out] at this
              exact this
            have HX6 : Hid (eHi base eKq W6 (fun b => b < W6.heap.size ∧ (Value.slice A n c).ownBlock ≠ some b) (fun j => (kpCells (Kp.fresh h) none 0 0 (.slice none 0 0) (.slice none 0 0))[j]?) (true, Kp.fresh h)) := by
              have w0 : wfI 0 := wfI.mk (by decide)
              exact ⟨eKp_iff.2 ⟨none, 0, 0, none, 0, 0, none, 0, 0, ⟨rfl, rfl, rfl, rfl, rfl, rfl, rfl, rfl, rfl, rfl, rfl, rfl, rfl, rfl, rfl, rfl⟩, ⟨hwh, w0, w0, w0, w0⟩, ⟨⟨by unfold lim; omega, by omega, by unfold maxLen; omega⟩, Sl.nil⟩, ⟨⟨by unfold lim; omega, by omega, by unfold maxLen; omega⟩, Sl.nil⟩, ⟨by unfold lim; omega, by omega, by unfold maxLen; omega⟩, Sl.nil⟩, fun e => ⟨rfl, rfl, rfl⟩⟩
            rw [← hW6, ← hvb]
            have HVB := Lib.hid hvb
            clear hW6 hvb
            (refine last_back hK (a' := ?hA12) (l' := ?hL12) ?ha12 ?hl12 (hSC.out _ HF36.out) (fun hHeld => ?hh12); (case ha12 => first | with_reducible rfl | (simp only [Act.put, hq1, hq2, hq3, Option.isNone, Bool.not_true, Bool.not_false]; (try with_reducible rfl))); (case hl12 => (simp only [Act.put, hq1, hq2, hq3, Option.isNone, Bool.not_true, Bool.not_false]; (try with_reducible rfl))); clear hK K)
            refine last_one (i := 9) rfl (by kernel_rfl) (fun K hK => ?_)
            go_simp
            go_at_call 140
            with_reducible refine (insertKepts_own (N := base) W6 base pa vb (.slice A n c) (p.keep.map fun x => (false, x)) (true, Kp.fresh h) (kpCells (Kp.fresh h) none 0 0 (.slice none 0 0) (.slice none 0 0)) 96 HO6.out (by rw [List.length_map, ← HN.out]; omega) HV6.out (fun e => by have := (HO6.out.ge e).2; have h1 := H3.out.own; rw [← HN.out] at h1; have := (h1.ge e).2; have := HVB.out; omega) rfl (by simp [kpCells, Value.oneCell']) HX6.out (by rw [List.length_map, ← HN.out]; unfold lim; omega) (by have := HF3.out.size; have := HF36.out.size; omega)).mono ?_
            rintro e w7 ⟨v7, rfl, ho7, hg7⟩
            have hno : ∀ b, (Value.slice A n c).ownBlock = some b → base ≤ b ∧ b < w.heap.size := fun b hb => by
              have h1 := H.out.plM.own
              rw [← HN.out] at h1
              exact h1.ge hb
            have hk7 : Chg (fun b => (Value.slice A n c).ownBlock = some b) W6 w7 := ⟨hg7.os, hg7.tape, hg7.output, hg7.size, fun b hb hs => hg7.block b hb fun e => hs e.symm⟩
            have hno1 : ¬ (Value.slice A n c).ownBlock = some pb := fun e => by have := hno _ e; omega
            have hno2 : ¬ (Value.slice A n c).ownBlock = some q := fun e => by have := hno _ e; have := HQW.out; omega
            have hS7 : w7.cell? ⟨pb, 1, none⟩ = some (.slice A n c) ∧ w7.cell? ⟨q, 0, none⟩ = some (.int .i64 h.frm) ∧ w7.cell? ⟨q, 1, none⟩ = some (.int .i64 h.seq) ∧ w7.cell? ⟨q, 2, none⟩ = some (.int .i64 h.to) ∧ w7.cell? ⟨q, 3, none⟩ = some (.int .i64 h.till) ∧ w7.cell? ⟨q, 4, none⟩ = some (.int .i64 h.bytes) ∧ w7.cell? ⟨q, 5, none⟩ = some (.int .i64 h.block) := by
              obtain ⟨k1, k2, k3, k4, k5, k6, k7⟩ := hSC.out _ HF36.out
              exact ⟨(hk7.cell (World.block_lt_of_cell? W6 _ k1) hno1).trans k1, (hk7.cell (World.block_lt_of_cell? W6 _ k2) hno2).trans k2, (hk7.cell (World.block_lt_of_cell? W6 _ k3) hno2).trans k3, (hk7.cell (World.block_lt_of_cell? W6 _ k4) hno2).trans k4, (hk7.cell (World.block_lt_of_cell? W6 _ k5) hno2).trans k5, (hk7.cell (World.block_lt_of_cell? W6 _ k6) hno2).trans k6, (hk7.cell (World.block_lt_of_cell? W6 _ k7) hno2).trans k7⟩
            have hb7 := hk7.blk H6.out.blk hno1
            rw [← HN.out] at hb7
            have hlk : (List.take pa (p.keep.map fun x => (false, x))).length = pa := by rw [List.length_take, List.length_map, ← HN.out]; omega
            have e1 : (List.take pa (p.keep.map fun x => (false, x)) ++ (true, Kp.fresh h) :: List.drop pa (p.keep.map fun x => (false, x))).map (·.2) = insKp p.keep (Kp.fresh h) := by
              unfold insKp
              rw [show placeAt p.keep (Kp.fresh h).h = pa from Hpa.out.symm]
              simp [List.map_take, List.map_drop, List.map_map, Function.comp_def]
            obtain ⟨g7, cap7, T7, rfl, hF7, hT7⟩ := ho7.focNew2 (i := pa) (x := Kp.fresh h) (by rw [List.getElem?_append_right (by rw [hlk]; exact Nat.le_refl _), hlk, Nat.sub_self]; rfl) rfl rfl rfl
            have elen : (List.take pa (p.keep.map fun x => (false, x)) ++ (true, Kp.fresh h) :: List.drop pa (p.keep.map fun x => (false, x))).length = (insKp p.keep (Kp.fresh h)).length := by rw [← e1, List.length_map]
            rw [e1] at hF7
            rw [elen]
            have HF7 := Lib.hid hF7
            have HT7 := Lib.hid hT7
            have HK7 := Lib.hid hk7
            clear e1 elen hlk hF7 hT7
            obtain ⟨ln, hln⟩ : ∃ ln, ln = (insKp p.keep (Kp.fresh h)).length := ⟨_, rfl⟩
            rw [← hln]
            have HLN := Lib.hid hln
            clear hln
            (refine last_back hK (a' := ?hA13) (l' := ?hL13) ?ha13 ?hl13 (hS7) (fun hHeld => ?hh13); (case ha13 => first | with_reducible rfl | (simp only [Act.put, hq1, hq2, hq3, Option.isNone, Bool.not_true, Bool.not_false]; (try with_reducible rfl))); (case hl13 => (simp only [Act.put, hq1, hq2, hq3, Option.isNone, Bool.not_true, Bool.not_false]; (try with_reducible rfl))); clear hK K)
            refine last_one (i := 10) rfl (by kernel_rfl) (fun K hK => ?_)
            go_simp
            (refine last_back hK (a' := ?hA14) (l' := ?hL14) ?ha14 ?hl14 (hS7) (fun hHeld => ?hh14); (case ha14 => first | with_reducible rfl | (simp only [Act.put, hq1, hq2, hq3, Option.isNone, Bool.not_true, Bool.not_false]; (try with_reducible rfl))); (case hl14 => (simp only [Act.put, hq1, hq2, hq3, Option.isNone, Bool.not_true, Bool.not_false]; (try with_reducible rfl))); clear hK K)
            ((first | refine last_sk (i := 11) ?_ | refine last_tk (i := 11) ?_))
            have y1 := blk_free (i := 1) hb7
            have hpl7 := (Array.getElem?_eq_some_iff.1 hb7).1
            have mp1 := hS7.1
            refine last_one (i := 12) rfl (by kernel_rfl) (fun K hK => ?_)
            go_simp
            refine last_end hK (by kernel_rfl) ?_
            clear hK K
            obtain ⟨W8, hW8⟩ : ∃ W8, W8 = w7.setCell ⟨pb, 1, none⟩ (.slice (some ⟨g7, 0, none⟩) ln cap7) := ⟨_, rfl⟩
            have hb8 : W8.heap[pb]? = some (.cells #[.int .i64 p.me, .slice (some ⟨g7, 0, none⟩) ln cap7, .int .i64 p.time, .int .i64 p.seq] 25 (0, 0)) := by rw [hW8]; have := heap_setCell_same w7 pb 1 _ _ (.slice (some ⟨g7, 0, none⟩) ln cap7) hb7; simpa using this
            have hk8 : Chg (fun b => b = pb) w7 W8 := by rw [hW8]; exact Chg.set (S := fun b => b = pb) (p := ⟨pb, 1, none⟩) (Chg.refl _ _) rfl _
            rw [← hW8]
            (obtain ⟨bp0, bp1, bp2, bp3⟩ := box4_ hb8)
            have hil : pa < ln := by rw [HLN.out]; exact HF7.out.hi
            have HX8 : Hid (Foc0 T7 W8 base g7 cap7 (insKp p.keep (Kp.fresh h)) pa (Kp.fresh h) none 0 0 (.slice none 0 0) (.slice none 0 0)) :=
              ⟨HF7.out.chg hk8 (by have := HF7.out.hbg; omega) (fun b hb => by have := (HF7.out.low b hb).1; omega) (fun b e => (by cases e)) (fun b e => (by cases e)), fun b _ => ⟨fun e => (by cases e), fun e => (by cases e)⟩, fun b e => (by cases e), fun b hb => HT7.out b (Nat.le_trans hk8.size hb)⟩
            have HC8 : Hid (Chg (BunS pb (.slice A p.keep.length c)) w W8) := by
              rw [← HN.out]
              have q1 : Chg (BunS pb (.slice A n c)) w W6 := (HF3.out.trans HF36.out).chg
              have q2 : Chg (BunS pb (.slice A n c)) W6 w7 := HK7.out.more fun b hb => .inr hb
              exact (q1.trans q2).trans (hk8.more fun b hb => .inl hb)
            have HB8 := Lib.hid hb8
            clear hb7 hb8 hk8 hk7 hW8 hS7 y1 hpl7 mp1 hno hno1 hno2 hSC
            go_wp2_with fail
            go_ret2
            refine .inr ⟨insKp p.keep (Kp.fresh h), pa, Kp.fresh h, g7, cap7, none, 0, 0, .slice none 0 0, .slice none 0 0, T7, by rw [E6.out, Hpa.out], rfl, HC8.out, by rw [← HLN.out]; exact HB8.out, HX8.out⟩
end Go.Proofs.YtmiaplgfbphfmaaGreatDoor
