/- keep.bundle. No condition. -/
import Derived.Test.YtojoodmnmhcojaaMKGB
import Derived.Test.YtojoodmnmhcojaaMKGA
import Derived.Test.YtojoodmnmhcojaaWayP
import Derived.Laws.StructEq
import Derived.KernelRfl
import Derived.Test.YtojoodmnmhcojaaPlaceP
set_option linter.unusedSimpArgs false
set_option linter.unusedVariables false
namespace Go.Proofs.Ytojoodmnmhcojaa
open Go.RowKit
attribute [local irreducible] wpList

theorem placeAt_step {l : List Kp} {h : Hd} {k : Nat} {x : Kp} (hx : l[k]? = some x) (ha : aheadB x.h h = true) : ((l.drop k).takeWhile fun y => aheadB y.h h).length = 1 + ((l.drop (k + 1)).takeWhile fun y => aheadB y.h h).length := by
  rw [drop_cons hx, List.takeWhile_cons, if_pos ha, List.length_cons]; omega
theorem placeAt_stop {l : List Kp} {h : Hd} {k : Nat} {x : Kp} (hx : l[k]? = some x) (ha : aheadB x.h h = false) : ((l.drop k).takeWhile fun y => aheadB y.h h).length = 0 := by
  rw [drop_cons hx, List.takeWhile_cons, if_neg (by simp [ha])]; rfl
set_option maxRecDepth 100000 in
set_option maxHeartbeats 16000000 in
theorem send_any (w : World) (base pb : Nat) (p : Pc) (A : Option Addr) (c : Nat) (h : PlM w base pb p A c) (h12 : p.keep.length ≤ 12) (hps : 0 ≤ p.seq ∧ p.seq ≤ 50) (r : Rc) (B : Option Addr) (nb cb : Nat) (B2 : Option Addr) (nb2 cb2 : Nat) (hwh : r.h.wf) (hwn : wfI r.n) (hy : Byt w (LT w.heap.size) B2 nb2 cb2 r.cargo) (hb : base ≤ w.heap.size) :
    Calls Try.prog 29 #[.pointer (some ⟨pb, 0, none⟩), .agg #[.int .i64 r.kind, .int .i64 r.place, .int .i64 r.n, .int .i64 r.try_, .int .i64 r.h.frm, .int .i64 r.h.seq, .int .i64 r.h.to, .int .i64 r.h.till, .int .i64 r.h.bytes, .int .i64 r.h.block, .int .i64 r.s.id, .slice B nb cb, .slice B2 nb2 cb2]] w fun e w' => e = .returned (.int .i64 (sendF p r).2) ∧ Chg (PlS base pb) w w' ∧ ∃ A' c', PlM w' base pb (sendF p r).1 A' c' := by
  have E := Lib.hid (sendF.eq_1 p r)
  have hbb := h.blk
  have hpb := h.low
  have H := Lib.hid h
  have HYS := Lib.hid hy.2
  have HYL := Lib.hid hy.1.1
  have HYN := Lib.hid hy.2.1
  have hpl := (Array.getElem?_eq_some_iff.1 hbb).1
  go_enter Try.func29, Try.ntmps29
  go_upto_region 1 with fail
  obtain ⟨W1, hW1⟩ : ∃ W1, W1 = w.alloc (.cells #[.int .i64 r.kind, .int .i64 r.place, .int .i64 r.n, .int .i64 r.try_, .int .i64 r.h.frm, .int .i64 r.h.seq, .int .i64 r.h.to, .int .i64 r.h.till, .int .i64 r.h.bytes, .int .i64 r.h.block, .int .i64 r.s.id, .slice B nb cb, .slice B2 nb2 cb2] 40) := ⟨_, rfl⟩
  obtain ⟨q, hq⟩ : ∃ q, q = w.heap.size := ⟨_, rfl⟩
  have HQ : Hid (W1.heap[q]? = some (.cells #[.int .i64 r.kind, .int .i64 r.place, .int .i64 r.n, .int .i64 r.try_, .int .i64 r.h.frm, .int .i64 r.h.seq, .int .i64 r.h.to, .int .i64 r.h.till, .int .i64 r.h.bytes, .int .i64 r.h.block, .int .i64 r.s.id, .slice B nb cb, .slice B2 nb2 cb2] 40 (0, 0))) := by rw [hW1]; exact heap_new hq
  have HF1 : Hid (Fr w W1) := by rw [hW1]; exact frAlloc _ _
  rw [← hW1, ← hq]
  have HQW : Hid (q = w.heap.size) := hq
  clear hW1 hq h hbb hy
  have hbx := blk_go H.out.blk HF1.out
  have hqx := HQ.out
  (obtain ⟨bp0, bp1, bp2, bp3⟩ := box4_ hbx)
  (obtain ⟨bx0, bx1, bx2, bx3, bx4, bx5, bx6, bx7, bx8, bx9, bx10, bx11, bx12⟩ := box13_ hqx)
  clear hbx hqx
  have fin : ∀ k W, Fr w W → sendF p r = (p, k) → Ending.returned (.int .i64 k) = .returned (.int .i64 (sendF p r).2) ∧ Chg (PlS base pb) w W ∧ ∃ A' c', PlM W base pb (sendF p r).1 A' c' := fun k W hf e => by
    rw [e]; exact ⟨rfl, hf.chg, _, _, H.out.fr hf⟩
  have FIN := Lib.hid fin
  clear fin
  by_cases h1 : r.h.frm = p.me
  case neg =>
    have E1 := Lib.hid (E.out.trans (if_pos h1))
    have t1 : (r.h.frm != p.me) = true := by simp [h1]
    clear E h1
    go_quiet (fail)
    go_wp2_with fail
    go_ret
    exact FIN.out _ _ (by (repeat' (first | exact Below.refl _ _ | refine below_drewN ?_ _ | refine Below.drew ?_ | refine frA ?_ _ | refine Fr.trans ?_ HF1.out))) E1.out
  case pos =>
  have E1 := Lib.hid (E.out.trans (if_neg (fun e => e h1)))
  have t1 : (r.h.frm != p.me) = false := by simp [h1]
  clear E h1
  go_quiet (fail)
  obtain ⟨n1, rfl⟩ : ∃ n1, n1 = nq := ⟨_, rfl⟩
  by_cases h2 : r.h.seq ≠ p.seq ∨ r.h.till ≤ p.time
  case pos =>
    have E2 := Lib.hid (E1.out.trans (if_pos h2))
    clear E1
    by_cases h3 : r.h.seq = p.seq
    · have t2 : (r.h.seq != p.seq) = false := by simp [h3]
      have t3 : decide (r.h.till ≤ p.time) = true := by simp; omega
      clear h2 h3
      go_upto_region 3 with fail
      go_quiet (fail)
      go_wp2_with fail
      go_ret
      exact FIN.out _ _ (by (repeat' (first | exact Below.refl _ _ | refine below_drewN ?_ _ | refine Below.drew ?_ | refine frA ?_ _ | refine Fr.trans ?_ HF1.out))) E2.out
    · have t2 : (r.h.seq != p.seq) = true := by simp [h3]
      clear h2 h3
      go_upto_region 3 with fail
      go_quiet (fail)
      go_wp2_with fail
      go_ret
      exact FIN.out _ _ (by (repeat' (first | exact Below.refl _ _ | refine below_drewN ?_ _ | refine Below.drew ?_ | refine frA ?_ _ | refine Fr.trans ?_ HF1.out))) E2.out
  case neg =>
  have E2 := Lib.hid (E1.out.trans (if_neg h2))
  have t2 : (r.h.seq != p.seq) = false := by simp; omega
  have t3 : decide (r.h.till ≤ p.time) = false := by simp; omega
  clear E1 h2
  go_upto_region 3 with fail
  go_quiet (fail)
  go_upto_region 5 with fail
  obtain ⟨W2, hW2⟩ : ∃ W2, W2 = (W1.drewN n1).drewN nq := ⟨_, rfl⟩
  have HF12 : Hid (Fr W1 W2) := by rw [hW2]; exact below_drewN (below_drewN (Below.refl _ _) _) _
  rw [← hW2]
  have HF2 : Hid (Fr w W2) := HF1.out.trans HF12.out
  clear hW2 t1 t2 t3 bp0 bp1 bp2 bp3 bx0 bx1 bx2 bx3 bx4 bx5 bx6 bx7 bx8 bx9 bx10 bx11 bx12
  have H2 := Lib.hid (H.out.fr HF2.out)
  have HQ2 := Lib.hid (blk_go HQ.out HF12.out)
  have hbx := H2.out.blk
  have hqx := HQ2.out
  (obtain ⟨bp0, bp1, bp2, bp3⟩ := box4_ hbx)
  (obtain ⟨bx0, bx1, bx2, bx3, bx4, bx5, bx6, bx7, bx8, bx9, bx10, bx11, bx12⟩ := box13_ hqx)
  clear hbx hqx HQ HF12 HF1
  by_cases h4 : r.n < 1 ∨ 64 < r.n
  case pos =>
    have E3 := Lib.hid (E2.out.trans (if_pos h4))
    clear E2
    by_cases h5 : r.n < 1
    · have t4 : decide (r.n < 1) = true := by simp [h5]
      clear h4 h5
      go_wp2_with fail
      go_ret
      exact FIN.out _ _ HF2.out E3.out
    · have t4 : decide (r.n < 1) = false := by simp; omega
      have t5 : decide (64 < r.n) = true := by simp; omega
      clear h4 h5
      go_wp2_with fail
      go_ret
      exact FIN.out _ _ HF2.out E3.out
  case neg =>
  have E3 := Lib.hid (E2.out.trans (if_neg h4))
  have t4 : decide (r.n < 1) = false := by simp; omega
  have t5 : decide (64 < r.n) = false := by simp; omega
  clear E2 h4
  obtain ⟨n, hn⟩ : ∃ n, n = p.keep.length := ⟨_, rfl⟩
  rw [← hn] at h12 bp1 E3
  by_cases h6 : n = 12
  case pos =>
    have E4 := Lib.hid (E3.out.trans (if_pos h6))
    have t6 : ((n : Int) == 12) = true := by simp [h6]
    clear E3 h6
    go_wp2_with fail
    go_ret
    exact FIN.out _ _ HF2.out E4.out
  case neg =>
  have E4 := Lib.hid (E3.out.trans (if_neg h6))
  have t6 : ((n : Int) == 12) = false := by simp; omega
  have h11 : n ≤ 11 := by omega
  have HN := Lib.hid hn
  clear E3 h6 h12 hn FIN
  obtain ⟨A9, c9, e9, ⟨hc9, hm9⟩, hsl⟩ := (H2.out.own.ofHi sKp).slC sKp (by decide)
  injection e9 with e9 _ e10
  subst e9 e10
  rw [← HN.out] at hsl hc9
  have HSL := Lib.hid hsl
  obtain ⟨pa, hpa⟩ : ∃ pa, pa = placeAt p.keep r.h := ⟨_, rfl⟩
  have HPA : Hid (pa = 0 + ((p.keep.drop 0).takeWhile fun y => aheadB y.h r.h).length) := by rw [Hid, List.drop_zero, hpa, Nat.zero_add]; rfl
  (have Hpa := Lib.hid hpa; clear hpa)
  clear hsl
  go_upto_region 9 with fail
  go_wp2_with fail
  go_loopw [5] (fun s5 wr => ∃ k : Nat, k ≤ n ∧ s5 = .int .i64 k ∧ Hid (pa = k + ((p.keep.drop k).takeWhile fun y => aheadB y.h r.h).length) ∧ Hid (Fr W2 wr)) (fun i _ => n - (intOf i).toNat)
  case atStart => exact ⟨0, Nat.zero_le _, rfl, HPA, Below.refl _ _⟩
  case round =>
    obtain ⟨k, hk, rfl, HS, HF⟩ := hrel
    have hbx := (H2.out.fr HF.out).blk
    rw [← HN.out] at hbx
    have hqx := blk_go HQ2.out HF.out
    clear bp0 bp1 bp2 bp3 bx0 bx1 bx2 bx3 bx4 bx5 bx6 bx7 bx8 bx9 bx10 bx11 bx12
    (obtain ⟨bp0, bp1, bp2, bp3⟩ := box4_ hbx)
    (obtain ⟨bx0, bx1, bx2, bx3, bx4, bx5, bx6, bx7, bx8, bx9, bx10, bx11, bx12⟩ := box13_ hqx)
    clear hbx hqx bp0 bp2 bp3 bx0 bx1 bx2 bx3 bx10 bx11 bx12
    by_cases hlt : k < n
    · obtain ⟨ad, hAd, hE⟩ := (HSL.out.go sKp HF.out).els (by omega)
      subst hAd
      obtain ⟨y, hy, hr⟩ := hE.row hlt
      obtain ⟨A1, n1', c1, A2, n2, c2, A3, n3, c3, ⟨m0, m1, m2, m3, m4, m5, _⟩, _⟩ := eKp_at hr
      have hSC : Hid (∀ w', Fr wr w' → w'.cell? ⟨pb, 1, none⟩ = some (.slice (some ad) n c) ∧ w'.cell? (ad.add (k * 16)) = some (.int .i64 y.h.frm) ∧ w'.cell? ⟨(ad.add (k * 16)).block, (ad.add (k * 16)).off + 1, none⟩ = some (.int .i64 y.h.seq) ∧ w'.cell? ⟨(ad.add (k * 16)).block, (ad.add (k * 16)).off + 2, none⟩ = some (.int .i64 y.h.to) ∧ w'.cell? ⟨(ad.add (k * 16)).block, (ad.add (k * 16)).off + 3, none⟩ = some (.int .i64 y.h.till) ∧ w'.cell? ⟨(ad.add (k * 16)).block, (ad.add (k * 16)).off + 4, none⟩ = some (.int .i64 y.h.bytes) ∧ w'.cell? ⟨(ad.add (k * 16)).block, (ad.add (k * 16)).off + 5, none⟩ = some (.int .i64 y.h.block) ∧ w'.cell? ⟨q, 4, none⟩ = some (.int .i64 r.h.frm) ∧ w'.cell? ⟨q, 5, none⟩ = some (.int .i64 r.h.seq) ∧ w'.cell? ⟨q, 6, none⟩ = some (.int .i64 r.h.to) ∧ w'.cell? ⟨q, 7, none⟩ = some (.int .i64 r.h.till) ∧ w'.cell? ⟨q, 8, none⟩ = some (.int .i64 r.h.bytes) ∧ w'.cell? ⟨q, 9, none⟩ = some (.int .i64 r.h.block)) := fun w' hf => ⟨(hf.cell (World.block_lt_of_cell? wr _ bp1)).trans bp1, (hf.cell (World.block_lt_of_cell? wr _ m0)).trans m0, (hf.cell (World.block_lt_of_cell? wr _ m1)).trans m1, (hf.cell (World.block_lt_of_cell? wr _ m2)).trans m2, (hf.cell (World.block_lt_of_cell? wr _ m3)).trans m3, (hf.cell (World.block_lt_of_cell? wr _ m4)).trans m4, (hf.cell (World.block_lt_of_cell? wr _ m5)).trans m5, (hf.cell (World.block_lt_of_cell? wr _ bx4)).trans bx4, (hf.cell (World.block_lt_of_cell? wr _ bx5)).trans bx5, (hf.cell (World.block_lt_of_cell? wr _ bx6)).trans bx6, (hf.cell (World.block_lt_of_cell? wr _ bx7)).trans bx7, (hf.cell (World.block_lt_of_cell? wr _ bx8)).trans bx8, (hf.cell (World.block_lt_of_cell? wr _ bx9)).trans bx9⟩
      obtain ⟨ab, hab⟩ : ∃ ab, ab = aheadB y.h r.h := ⟨_, rfl⟩
      have AH : Hid (∀ W, Calls Try.prog 16 #[.agg #[.int .i64 y.h.frm, .int .i64 y.h.seq, .int .i64 y.h.to, .int .i64 y.h.till, .int .i64 y.h.bytes, .int .i64 y.h.block], .agg #[.int .i64 r.h.frm, .int .i64 r.h.seq, .int .i64 r.h.to, .int .i64 r.h.till, .int .i64 r.h.bytes, .int .i64 r.h.block]] W fun e w' => e = .returned (.bool ab) ∧ Fr W w') := fun W => by rw [hab]; exact ahead_any W _ _
      have hlt2 : (k : Int) < (n : Int) := by omega
      have HYY := Lib.hid hy
      have HAB := Lib.hid hab
      clear hE hy hr hab m0 m1 m2 m3 m4 m5 bp1 bx4 bx5 bx6 bx7 bx8 bx9
      go_upto_region 10 with fail
      refine held_begin (n := 20) (bs := #[false, false, false, false, false, false, false, false, false, false, false, false, false, false, false, false, false, false, false, false]) rfl rfl (by kernel_rfl) (S := fun w' => w'.cell? ⟨pb, 1, none⟩ = some (.slice (some ad) n c) ∧ w'.cell? (ad.add (k * 16)) = some (.int .i64 y.h.frm) ∧ w'.cell? ⟨(ad.add (k * 16)).block, (ad.add (k * 16)).off + 1, none⟩ = some (.int .i64 y.h.seq) ∧ w'.cell? ⟨(ad.add (k * 16)).block, (ad.add (k * 16)).off + 2, none⟩ = some (.int .i64 y.h.to) ∧ w'.cell? ⟨(ad.add (k * 16)).block, (ad.add (k * 16)).off + 3, none⟩ = some (.int .i64 y.h.till) ∧ w'.cell? ⟨(ad.add (k * 16)).block, (ad.add (k * 16)).off + 4, none⟩ = some (.int .i64 y.h.bytes) ∧ w'.cell? ⟨(ad.add (k * 16)).block, (ad.add (k * 16)).off + 5, none⟩ = some (.int .i64 y.h.block) ∧ w'.cell? ⟨q, 4, none⟩ = some (.int .i64 r.h.frm) ∧ w'.cell? ⟨q, 5, none⟩ = some (.int .i64 r.h.seq) ∧ w'.cell? ⟨q, 6, none⟩ = some (.int .i64 r.h.to) ∧ w'.cell? ⟨q, 7, none⟩ = some (.int .i64 r.h.till) ∧ w'.cell? ⟨q, 8, none⟩ = some (.int .i64 r.h.bytes) ∧ w'.cell? ⟨q, 9, none⟩ = some (.int .i64 r.h.block)) (hSC.out _ (Below.refl _ _).drew) (fun hHeld => ?_)
      ((first | (refine held_skip (i := 0) (a' := ?hA131) (l' := ?hL131) rfl (by kernel_rfl) (by kernel_rfl) (by kernel_rfl) (fun _ _ _ h => h) (by rfl) (by assumption) ?ha131 ?hl131 ?hh131; (case ha131 => (simp only [Act.put, hq1, hq2, hq3, Option.isNone, Bool.not_true, Bool.not_false]; (try with_reducible rfl))); (case hl131 => (simp only [Act.put, hq1, hq2, hq3, Option.isNone, Bool.not_true, Bool.not_false]; (try with_reducible rfl)))) | (refine held_take (i := 0) (v := ?hV131) (a' := ?hA131) (l' := ?hL131) rfl (by kernel_rfl) (by kernel_rfl) (by kernel_rfl) (fun _ _ _ h => h) (by rfl) ?hv131 (by assumption) ?ha131 ?hl131 ?hh131; (case hv131 => (intro w hSw; (try dsimp only at hSw); go_simp; (try simp only [run_eql_slice_nil _ 36 _ _ _ _ Try.underlying36, Result.andThen_ok]); (try with_reducible rfl))); (case ha131 => (simp only [Act.put, hq1, hq2, hq3, Option.isNone, Bool.not_true, Bool.not_false]; (try with_reducible rfl))); (case hl131 => (simp only [Act.put, hq1, hq2, hq3, Option.isNone, Bool.not_true, Bool.not_false]; (try with_reducible rfl))))); (first | (refine held_skip (i := 1) (a' := ?hA132) (l' := ?hL132) rfl (by kernel_rfl) (by kernel_rfl) (by kernel_rfl) (fun _ _ _ h => h) (by rfl) (by assumption) ?ha132 ?hl132 ?hh132; (case ha132 => (simp only [Act.put, hq1, hq2, hq3, Option.isNone, Bool.not_true, Bool.not_false]; (try with_reducible rfl))); (case hl132 => (simp only [Act.put, hq1, hq2, hq3, Option.isNone, Bool.not_true, Bool.not_false]; (try with_reducible rfl)))) | (refine held_take (i := 1) (v := ?hV132) (a' := ?hA132) (l' := ?hL132) rfl (by kernel_rfl) (by kernel_rfl) (by kernel_rfl) (fun _ _ _ h => h) (by rfl) ?hv132 (by assumption) ?ha132 ?hl132 ?hh132; (case hv132 => (intro w hSw; (try dsimp only at hSw); go_simp; (try simp only [run_eql_slice_nil _ 36 _ _ _ _ Try.underlying36, Result.andThen_ok]); (try with_reducible rfl))); (case ha132 => (simp only [Act.put, hq1, hq2, hq3, Option.isNone, Bool.not_true, Bool.not_false]; (try with_reducible rfl))); (case hl132 => (simp only [Act.put, hq1, hq2, hq3, Option.isNone, Bool.not_true, Bool.not_false]; (try with_reducible rfl))))); (first | (refine held_skip (i := 2) (a' := ?hA133) (l' := ?hL133) rfl (by kernel_rfl) (by kernel_rfl) (by kernel_rfl) (fun _ _ _ h => h) (by rfl) (by assumption) ?ha133 ?hl133 ?hh133; (case ha133 => (simp only [Act.put, hq1, hq2, hq3, Option.isNone, Bool.not_true, Bool.not_false]; (try with_reducible rfl))); (case hl133 => (simp only [Act.put, hq1, hq2, hq3, Option.isNone, Bool.not_true, Bool.not_false]; (try with_reducible rfl)))) | (refine held_take (i := 2) (v := ?hV133) (a' := ?hA133) (l' := ?hL133) rfl (by kernel_rfl) (by kernel_rfl) (by kernel_rfl) (fun _ _ _ h => h) (by rfl) ?hv133 (by assumption) ?ha133 ?hl133 ?hh133; (case hv133 => (intro w hSw; (try dsimp only at hSw); go_simp; (try simp only [run_eql_slice_nil _ 36 _ _ _ _ Try.underlying36, Result.andThen_ok]); (try with_reducible rfl))); (case ha133 => (simp only [Act.put, hq1, hq2, hq3, Option.isNone, Bool.not_true, Bool.not_false]; (try with_reducible rfl))); (case hl133 => (simp only [Act.put, hq1, hq2, hq3, Option.isNone, Bool.not_true, Bool.not_false]; (try with_reducible rfl))))); (first | (refine held_skip (i := 3) (a' := ?hA134) (l' := ?hL134) rfl (by kernel_rfl) (by kernel_rfl) (by kernel_rfl) (fun _ _ _ h => h) (by rfl) (by assumption) ?ha134 ?hl134 ?hh134; (case ha134 => (simp only [Act.put, hq1, hq2, hq3, Option.isNone, Bool.not_true, Bool.not_false]; (try with_reducible rfl))); (case hl134 => (simp only [Act.put, hq1, hq2, hq3, Option.isNone, Bool.not_true, Bool.not_false]; (try with_reducible rfl)))) | (refine held_take (i := 3) (v := ?hV134) (a' := ?hA134) (l' := ?hL134) rfl (by kernel_rfl) (by kernel_rfl) (by kernel_rfl) (fun _ _ _ h => h) (by rfl) ?hv134 (by assumption) ?ha134 ?hl134 ?hh134; (case hv134 => (intro w hSw; (try dsimp only at hSw); go_simp; (try simp only [run_eql_slice_nil _ 36 _ _ _ _ Try.underlying36, Result.andThen_ok]); (try with_reducible rfl))); (case ha134 => (simp only [Act.put, hq1, hq2, hq3, Option.isNone, Bool.not_true, Bool.not_false]; (try with_reducible rfl))); (case hl134 => (simp only [Act.put, hq1, hq2, hq3, Option.isNone, Bool.not_true, Bool.not_false]; (try with_reducible rfl))))); (first | (refine held_skip (i := 4) (a' := ?hA135) (l' := ?hL135) rfl (by kernel_rfl) (by kernel_rfl) (by kernel_rfl) (fun _ _ _ h => h) (by rfl) (by assumption) ?ha135 ?hl135 ?hh135; (case ha135 => (simp only [Act.put, hq1, hq2, hq3, Option.isNone, Bool.not_true, Bool.not_false]; (try with_reducible rfl))); (case hl135 => (simp only [Act.put, hq1, hq2, hq3, Option.isNone, Bool.not_true, Bool.not_false]; (try with_reducible rfl)))) | (refine held_take (i := 4) (v := ?hV135) (a' := ?hA135) (l' := ?hL135) rfl (by kernel_rfl) (by kernel_rfl) (by kernel_rfl) (fun _ _ _ h => h) (by rfl) ?hv135 (by assumption) ?ha135 ?hl135 ?hh135; (case hv135 => (intro w hSw; (try dsimp only at hSw); go_simp; (try simp only [run_eql_slice_nil _ 36 _ _ _ _ Try.underlying36, Result.andThen_ok]); (try with_reducible rfl))); (case ha135 => (simp only [Act.put, hq1, hq2, hq3, Option.isNone, Bool.not_true, Bool.not_false]; (try with_reducible rfl))); (case hl135 => (simp only [Act.put, hq1, hq2, hq3, Option.isNone, Bool.not_true, Bool.not_false]; (try with_reducible rfl))))); (first | (refine held_skip (i := 5) (a' := ?hA136) (l' := ?hL136) rfl (by kernel_rfl) (by kernel_rfl) (by kernel_rfl) (fun _ _ _ h => h) (by rfl) (by assumption) ?ha136 ?hl136 ?hh136; (case ha136 => (simp only [Act.put, hq1, hq2, hq3, Option.isNone, Bool.not_true, Bool.not_false]; (try with_reducible rfl))); (case hl136 => (simp only [Act.put, hq1, hq2, hq3, Option.isNone, Bool.not_true, Bool.not_false]; (try with_reducible rfl)))) | (refine held_take (i := 5) (v := ?hV136) (a' := ?hA136) (l' := ?hL136) rfl (by kernel_rfl) (by kernel_rfl) (by kernel_rfl) (fun _ _ _ h => h) (by rfl) ?hv136 (by assumption) ?ha136 ?hl136 ?hh136; (case hv136 => (intro w hSw; (try dsimp only at hSw); go_simp; (try simp only [run_eql_slice_nil _ 36 _ _ _ _ Try.underlying36, Result.andThen_ok]); (try with_reducible rfl))); (case ha136 => (simp only [Act.put, hq1, hq2, hq3, Option.isNone, Bool.not_true, Bool.not_false]; (try with_reducible rfl))); (case hl136 => (simp only [Act.put, hq1, hq2, hq3, Option.isNone, Bool.not_true, Bool.not_false]; (try with_reducible rfl))))); (first | (refine held_skip (i := 6) (a' := ?hA137) (l' := ?hL137) rfl (by kernel_rfl) (by kernel_rfl) (by kernel_rfl) (fun _ _ _ h => h) (by rfl) (by assumption) ?ha137 ?hl137 ?hh137; (case ha137 => (simp only [Act.put, hq1, hq2, hq3, Option.isNone, Bool.not_true, Bool.not_false]; (try with_reducible rfl))); (case hl137 => (simp only [Act.put, hq1, hq2, hq3, Option.isNone, Bool.not_true, Bool.not_false]; (try with_reducible rfl)))) | (refine held_take (i := 6) (v := ?hV137) (a' := ?hA137) (l' := ?hL137) rfl (by kernel_rfl) (by kernel_rfl) (by kernel_rfl) (fun _ _ _ h => h) (by rfl) ?hv137 (by assumption) ?ha137 ?hl137 ?hh137; (case hv137 => (intro w hSw; (try dsimp only at hSw); go_simp; (try simp only [run_eql_slice_nil _ 36 _ _ _ _ Try.underlying36, Result.andThen_ok]); (try with_reducible rfl))); (case ha137 => (simp only [Act.put, hq1, hq2, hq3, Option.isNone, Bool.not_true, Bool.not_false]; (try with_reducible rfl))); (case hl137 => (simp only [Act.put, hq1, hq2, hq3, Option.isNone, Bool.not_true, Bool.not_false]; (try with_reducible rfl))))); (first | (refine held_skip (i := 7) (a' := ?hA138) (l' := ?hL138) rfl (by kernel_rfl) (by kernel_rfl) (by kernel_rfl) (fun _ _ _ h => h) (by rfl) (by assumption) ?ha138 ?hl138 ?hh138; (case ha138 => (simp only [Act.put, hq1, hq2, hq3, Option.isNone, Bool.not_true, Bool.not_false]; (try with_reducible rfl))); (case hl138 => (simp only [Act.put, hq1, hq2, hq3, Option.isNone, Bool.not_true, Bool.not_false]; (try with_reducible rfl)))) | (refine held_take (i := 7) (v := ?hV138) (a' := ?hA138) (l' := ?hL138) rfl (by kernel_rfl) (by kernel_rfl) (by kernel_rfl) (fun _ _ _ h => h) (by rfl) ?hv138 (by assumption) ?ha138 ?hl138 ?hh138; (case hv138 => (intro w hSw; (try dsimp only at hSw); go_simp; (try simp only [run_eql_slice_nil _ 36 _ _ _ _ Try.underlying36, Result.andThen_ok]); (try with_reducible rfl))); (case ha138 => (simp only [Act.put, hq1, hq2, hq3, Option.isNone, Bool.not_true, Bool.not_false]; (try with_reducible rfl))); (case hl138 => (simp only [Act.put, hq1, hq2, hq3, Option.isNone, Bool.not_true, Bool.not_false]; (try with_reducible rfl))))); (first | (refine held_skip (i := 8) (a' := ?hA139) (l' := ?hL139) rfl (by kernel_rfl) (by kernel_rfl) (by kernel_rfl) (fun _ _ _ h => h) (by rfl) (by assumption) ?ha139 ?hl139 ?hh139; (case ha139 => (simp only [Act.put, hq1, hq2, hq3, Option.isNone, Bool.not_true, Bool.not_false]; (try with_reducible rfl))); (case hl139 => (simp only [Act.put, hq1, hq2, hq3, Option.isNone, Bool.not_true, Bool.not_false]; (try with_reducible rfl)))) | (refine held_take (i := 8) (v := ?hV139) (a' := ?hA139) (l' := ?hL139) rfl (by kernel_rfl) (by kernel_rfl) (by kernel_rfl) (fun _ _ _ h => h) (by rfl) ?hv139 (by assumption) ?ha139 ?hl139 ?hh139; (case hv139 => (intro w hSw; (try dsimp only at hSw); go_simp; (try simp only [run_eql_slice_nil _ 36 _ _ _ _ Try.underlying36, Result.andThen_ok]); (try with_reducible rfl))); (case ha139 => (simp only [Act.put, hq1, hq2, hq3, Option.isNone, Bool.not_true, Bool.not_false]; (try with_reducible rfl))); (case hl139 => (simp only [Act.put, hq1, hq2, hq3, Option.isNone, Bool.not_true, Bool.not_false]; (try with_reducible rfl))))); (first | (refine held_skip (i := 9) (a' := ?hA140) (l' := ?hL140) rfl (by kernel_rfl) (by kernel_rfl) (by kernel_rfl) (fun _ _ _ h => h) (by rfl) (by assumption) ?ha140 ?hl140 ?hh140; (case ha140 => (simp only [Act.put, hq1, hq2, hq3, Option.isNone, Bool.not_true, Bool.not_false]; (try with_reducible rfl))); (case hl140 => (simp only [Act.put, hq1, hq2, hq3, Option.isNone, Bool.not_true, Bool.not_false]; (try with_reducible rfl)))) | (refine held_take (i := 9) (v := ?hV140) (a' := ?hA140) (l' := ?hL140) rfl (by kernel_rfl) (by kernel_rfl) (by kernel_rfl) (fun _ _ _ h => h) (by rfl) ?hv140 (by assumption) ?ha140 ?hl140 ?hh140; (case hv140 => (intro w hSw; (try dsimp only at hSw); go_simp; (try simp only [run_eql_slice_nil _ 36 _ _ _ _ Try.underlying36, Result.andThen_ok]); (try with_reducible rfl))); (case ha140 => (simp only [Act.put, hq1, hq2, hq3, Option.isNone, Bool.not_true, Bool.not_false]; (try with_reducible rfl))); (case hl140 => (simp only [Act.put, hq1, hq2, hq3, Option.isNone, Bool.not_true, Bool.not_false]; (try with_reducible rfl))))); (first | (refine held_skip (i := 10) (a' := ?hA141) (l' := ?hL141) rfl (by kernel_rfl) (by kernel_rfl) (by kernel_rfl) (fun _ _ _ h => h) (by rfl) (by assumption) ?ha141 ?hl141 ?hh141; (case ha141 => (simp only [Act.put, hq1, hq2, hq3, Option.isNone, Bool.not_true, Bool.not_false]; (try with_reducible rfl))); (case hl141 => (simp only [Act.put, hq1, hq2, hq3, Option.isNone, Bool.not_true, Bool.not_false]; (try with_reducible rfl)))) | (refine held_take (i := 10) (v := ?hV141) (a' := ?hA141) (l' := ?hL141) rfl (by kernel_rfl) (by kernel_rfl) (by kernel_rfl) (fun _ _ _ h => h) (by rfl) ?hv141 (by assumption) ?ha141 ?hl141 ?hh141; (case hv141 => (intro w hSw; (try dsimp only at hSw); go_simp; (try simp only [run_eql_slice_nil _ 36 _ _ _ _ Try.underlying36, Result.andThen_ok]); (try with_reducible rfl))); (case ha141 => (simp only [Act.put, hq1, hq2, hq3, Option.isNone, Bool.not_true, Bool.not_false]; (try with_reducible rfl))); (case hl141 => (simp only [Act.put, hq1, hq2, hq3, Option.isNone, Bool.not_true, Bool.not_false]; (try with_reducible rfl))))); (first | (refine held_skip (i := 11) (a' := ?hA142) (l' := ?hL142) rfl (by kernel_rfl) (by kernel_rfl) (by kernel_rfl) (fun _ _ _ h => h) (by rfl) (by assumption) ?ha142 ?hl142 ?hh142; (case ha142 => (simp only [Act.put, hq1, hq2, hq3, Option.isNone, Bool.not_true, Bool.not_false]; (try with_reducible rfl))); (case hl142 => (simp only [Act.put, hq1, hq2, hq3, Option.isNone, Bool.not_true, Bool.not_false]; (try with_reducible rfl)))) | (refine held_take (i := 11) (v := ?hV142) (a' := ?hA142) (l' := ?hL142) rfl (by kernel_rfl) (by kernel_rfl) (by kernel_rfl) (fun _ _ _ h => h) (by rfl) ?hv142 (by assumption) ?ha142 ?hl142 ?hh142; (case hv142 => (intro w hSw; (try dsimp only at hSw); go_simp; (try simp only [run_eql_slice_nil _ 36 _ _ _ _ Try.underlying36, Result.andThen_ok]); (try with_reducible rfl))); (case ha142 => (simp only [Act.put, hq1, hq2, hq3, Option.isNone, Bool.not_true, Bool.not_false]; (try with_reducible rfl))); (case hl142 => (simp only [Act.put, hq1, hq2, hq3, Option.isNone, Bool.not_true, Bool.not_false]; (try with_reducible rfl))))); (first | (refine held_skip (i := 12) (a' := ?hA143) (l' := ?hL143) rfl (by kernel_rfl) (by kernel_rfl) (by kernel_rfl) (fun _ _ _ h => h) (by rfl) (by assumption) ?ha143 ?hl143 ?hh143; (case ha143 => (simp only [Act.put, hq1, hq2, hq3, Option.isNone, Bool.not_true, Bool.not_false]; (try with_reducible rfl))); (case hl143 => (simp only [Act.put, hq1, hq2, hq3, Option.isNone, Bool.not_true, Bool.not_false]; (try with_reducible rfl)))) | (refine held_take (i := 12) (v := ?hV143) (a' := ?hA143) (l' := ?hL143) rfl (by kernel_rfl) (by kernel_rfl) (by kernel_rfl) (fun _ _ _ h => h) (by rfl) ?hv143 (by assumption) ?ha143 ?hl143 ?hh143; (case hv143 => (intro w hSw; (try dsimp only at hSw); go_simp; (try simp only [run_eql_slice_nil _ 36 _ _ _ _ Try.underlying36, Result.andThen_ok]); (try with_reducible rfl))); (case ha143 => (simp only [Act.put, hq1, hq2, hq3, Option.isNone, Bool.not_true, Bool.not_false]; (try with_reducible rfl))); (case hl143 => (simp only [Act.put, hq1, hq2, hq3, Option.isNone, Bool.not_true, Bool.not_false]; (try with_reducible rfl))))); (first | (refine held_skip (i := 13) (a' := ?hA144) (l' := ?hL144) rfl (by kernel_rfl) (by kernel_rfl) (by kernel_rfl) (fun _ _ _ h => h) (by rfl) (by assumption) ?ha144 ?hl144 ?hh144; (case ha144 => (simp only [Act.put, hq1, hq2, hq3, Option.isNone, Bool.not_true, Bool.not_false]; (try with_reducible rfl))); (case hl144 => (simp only [Act.put, hq1, hq2, hq3, Option.isNone, Bool.not_true, Bool.not_false]; (try with_reducible rfl)))) | (refine held_take (i := 13) (v := ?hV144) (a' := ?hA144) (l' := ?hL144) rfl (by kernel_rfl) (by kernel_rfl) (by kernel_rfl) (fun _ _ _ h => h) (by rfl) ?hv144 (by assumption) ?ha144 ?hl144 ?hh144; (case hv144 => (intro w hSw; (try dsimp only at hSw); go_simp; (try simp only [run_eql_slice_nil _ 36 _ _ _ _ Try.underlying36, Result.andThen_ok]); (try with_reducible rfl))); (case ha144 => (simp only [Act.put, hq1, hq2, hq3, Option.isNone, Bool.not_true, Bool.not_false]; (try with_reducible rfl))); (case hl144 => (simp only [Act.put, hq1, hq2, hq3, Option.isNone, Bool.not_true, Bool.not_false]; (try with_reducible rfl))))); (first | (refine held_skip (i := 14) (a' := ?hA145) (l' := ?hL145) rfl (by kernel_rfl) (by kernel_rfl) (by kernel_rfl) (fun _ _ _ h => h) (by rfl) (by assumption) ?ha145 ?hl145 ?hh145; (case ha145 => (simp only [Act.put, hq1, hq2, hq3, Option.isNone, Bool.not_true, Bool.not_false]; (try with_reducible rfl))); (case hl145 => (simp only [Act.put, hq1, hq2, hq3, Option.isNone, Bool.not_true, Bool.not_false]; (try with_reducible rfl)))) | (refine held_take (i := 14) (v := ?hV145) (a' := ?hA145) (l' := ?hL145) rfl (by kernel_rfl) (by kernel_rfl) (by kernel_rfl) (fun _ _ _ h => h) (by rfl) ?hv145 (by assumption) ?ha145 ?hl145 ?hh145; (case hv145 => (intro w hSw; (try dsimp only at hSw); go_simp; (try simp only [run_eql_slice_nil _ 36 _ _ _ _ Try.underlying36, Result.andThen_ok]); (try with_reducible rfl))); (case ha145 => (simp only [Act.put, hq1, hq2, hq3, Option.isNone, Bool.not_true, Bool.not_false]; (try with_reducible rfl))); (case hl145 => (simp only [Act.put, hq1, hq2, hq3, Option.isNone, Bool.not_true, Bool.not_false]; (try with_reducible rfl))))); (first | (refine held_skip (i := 15) (a' := ?hA146) (l' := ?hL146) rfl (by kernel_rfl) (by kernel_rfl) (by kernel_rfl) (fun _ _ _ h => h) (by rfl) (by assumption) ?ha146 ?hl146 ?hh146; (case ha146 => (simp only [Act.put, hq1, hq2, hq3, Option.isNone, Bool.not_true, Bool.not_false]; (try with_reducible rfl))); (case hl146 => (simp only [Act.put, hq1, hq2, hq3, Option.isNone, Bool.not_true, Bool.not_false]; (try with_reducible rfl)))) | (refine held_take (i := 15) (v := ?hV146) (a' := ?hA146) (l' := ?hL146) rfl (by kernel_rfl) (by kernel_rfl) (by kernel_rfl) (fun _ _ _ h => h) (by rfl) ?hv146 (by assumption) ?ha146 ?hl146 ?hh146; (case hv146 => (intro w hSw; (try dsimp only at hSw); go_simp; (try simp only [run_eql_slice_nil _ 36 _ _ _ _ Try.underlying36, Result.andThen_ok]); (try with_reducible rfl))); (case ha146 => (simp only [Act.put, hq1, hq2, hq3, Option.isNone, Bool.not_true, Bool.not_false]; (try with_reducible rfl))); (case hl146 => (simp only [Act.put, hq1, hq2, hq3, Option.isNone, Bool.not_true, Bool.not_false]; (try with_reducible rfl))))); (first | (refine held_skip (i := 16) (a' := ?hA147) (l' := ?hL147) rfl (by kernel_rfl) (by kernel_rfl) (by kernel_rfl) (fun _ _ _ h => h) (by rfl) (by assumption) ?ha147 ?hl147 ?hh147; (case ha147 => (simp only [Act.put, hq1, hq2, hq3, Option.isNone, Bool.not_true, Bool.not_false]; (try with_reducible rfl))); (case hl147 => (simp only [Act.put, hq1, hq2, hq3, Option.isNone, Bool.not_true, Bool.not_false]; (try with_reducible rfl)))) | (refine held_take (i := 16) (v := ?hV147) (a' := ?hA147) (l' := ?hL147) rfl (by kernel_rfl) (by kernel_rfl) (by kernel_rfl) (fun _ _ _ h => h) (by rfl) ?hv147 (by assumption) ?ha147 ?hl147 ?hh147; (case hv147 => (intro w hSw; (try dsimp only at hSw); go_simp; (try simp only [run_eql_slice_nil _ 36 _ _ _ _ Try.underlying36, Result.andThen_ok]); (try with_reducible rfl))); (case ha147 => (simp only [Act.put, hq1, hq2, hq3, Option.isNone, Bool.not_true, Bool.not_false]; (try with_reducible rfl))); (case hl147 => (simp only [Act.put, hq1, hq2, hq3, Option.isNone, Bool.not_true, Bool.not_false]; (try with_reducible rfl))))); (first | (refine held_skip (i := 17) (a' := ?hA148) (l' := ?hL148) rfl (by kernel_rfl) (by kernel_rfl) (by kernel_rfl) (fun _ _ _ h => h) (by rfl) (by assumption) ?ha148 ?hl148 ?hh148; (case ha148 => (simp only [Act.put, hq1, hq2, hq3, Option.isNone, Bool.not_true, Bool.not_false]; (try with_reducible rfl))); (case hl148 => (simp only [Act.put, hq1, hq2, hq3, Option.isNone, Bool.not_true, Bool.not_false]; (try with_reducible rfl)))) | (refine held_take (i := 17) (v := ?hV148) (a' := ?hA148) (l' := ?hL148) rfl (by kernel_rfl) (by kernel_rfl) (by kernel_rfl) (fun _ _ _ h => h) (by rfl) ?hv148 (by assumption) ?ha148 ?hl148 ?hh148; (case hv148 => (intro w hSw; (try dsimp only at hSw); go_simp; (try simp only [run_eql_slice_nil _ 36 _ _ _ _ Try.underlying36, Result.andThen_ok]); (try with_reducible rfl))); (case ha148 => (simp only [Act.put, hq1, hq2, hq3, Option.isNone, Bool.not_true, Bool.not_false]; (try with_reducible rfl))); (case hl148 => (simp only [Act.put, hq1, hq2, hq3, Option.isNone, Bool.not_true, Bool.not_false]; (try with_reducible rfl))))))
      refine held_one (i := 18) rfl (by kernel_rfl) (fun K hK => ?_)
      go_simp
      go_at_call 16
      (with_reducible refine (AH.out _).mono ?_)
      rintro e w7 ⟨rfl, hf7⟩
      have hf67 : Fr wr w7 := Fr.trans (Below.refl _ _).drew hf7
      (refine held_back hK (a' := ?hA256) (l' := ?hL256) ?ha256 ?hl256 (hSC.out _ hf67) (fun hHeld => ?hh256); (case ha256 => first | with_reducible rfl | (simp only [Act.put, hq1, hq2, hq3, Option.isNone, Bool.not_true, Bool.not_false]; (try with_reducible rfl))); (case hl256 => (simp only [Act.put, hq1, hq2, hq3, Option.isNone, Bool.not_true, Bool.not_false]; (try with_reducible rfl))); clear hK K)
      ((first | (refine held_skip (i := 19) (a' := ?hA149) (l' := ?hL149) rfl (by kernel_rfl) (by kernel_rfl) (by kernel_rfl) (fun _ _ _ h => h) (by rfl) (by assumption) ?ha149 ?hl149 ?hh149; (case ha149 => (simp only [Act.put, hq1, hq2, hq3, Option.isNone, Bool.not_true, Bool.not_false]; (try with_reducible rfl))); (case hl149 => (simp only [Act.put, hq1, hq2, hq3, Option.isNone, Bool.not_true, Bool.not_false]; (try with_reducible rfl)))) | (refine held_take (i := 19) (v := ?hV149) (a' := ?hA149) (l' := ?hL149) rfl (by kernel_rfl) (by kernel_rfl) (by kernel_rfl) (fun _ _ _ h => h) (by rfl) ?hv149 (by assumption) ?ha149 ?hl149 ?hh149; (case hv149 => (intro w hSw; (try dsimp only at hSw); go_simp; (try simp only [run_eql_slice_nil _ 36 _ _ _ _ Try.underlying36, Result.andThen_ok]); (try with_reducible rfl))); (case ha149 => (simp only [Act.put, hq1, hq2, hq3, Option.isNone, Bool.not_true, Bool.not_false]; (try with_reducible rfl))); (case hl149 => (simp only [Act.put, hq1, hq2, hq3, Option.isNone, Bool.not_true, Bool.not_false]; (try with_reducible rfl))))))
      refine wpAnyH_done (by kernel_rfl) ?_ _
      have HF7 : Hid (Fr W2 w7) := HF.out.trans hf67
      clear hSC AH hHeld hf7 hf67
      cases ab with
      | true =>
        have HS2 : Hid (pa = k + 1 + ((p.keep.drop (k + 1)).takeWhile fun y => aheadB y.h r.h).length) := by rw [Hid, HS.out, placeAt_step HYY.out HAB.out.symm]; omega
        go_wp2_with fail
        go_roundw
        case rel => exact ⟨k + 1, by omega, by go_num, HS2, HF7⟩
        case measure => simp [intOf]; omega
      | false =>
        have hkp : pa = k := by rw [HS.out, placeAt_stop HYY.out HAB.out.symm]; omega
        subst hkp
        clear HAB HYY HS
        obtain ⟨W3, hW3⟩ : ∃ W3, W3 = w7 := ⟨_, rfl⟩
        have HF23 : Hid (Fr W2 W3) := by rw [hW3]; exact HF7.out
        rw [← hW3]
        clear hW3
        have HF3 : Hid (Fr w W3) := HF2.out.trans HF23.out
        have H3 := Lib.hid (H.out.fr HF3.out)
        have HQ3 := Lib.hid (blk_go HQ2.out HF23.out)
        have hbx := H3.out.blk
        rw [← HN.out] at hbx
        have hqx := HQ3.out
        (obtain ⟨bp0, bp1, bp2, bp3⟩ := box4_ hbx)
        (obtain ⟨bx0, bx1, bx2, bx3, bx4, bx5, bx6, bx7, bx8, bx9, bx10, bx11, bx12⟩ := box13_ hqx)
        have hSC : Hid (∀ w', Fr W3 w' → w'.cell? ⟨pb, 1, none⟩ = some (.slice (some ad) n c) ∧ w'.cell? ⟨q, 2, none⟩ = some (.int .i64 r.n) ∧ w'.cell? ⟨q, 4, none⟩ = some (.int .i64 r.h.frm) ∧ w'.cell? ⟨q, 5, none⟩ = some (.int .i64 r.h.seq) ∧ w'.cell? ⟨q, 6, none⟩ = some (.int .i64 r.h.to) ∧ w'.cell? ⟨q, 7, none⟩ = some (.int .i64 r.h.till) ∧ w'.cell? ⟨q, 8, none⟩ = some (.int .i64 r.h.bytes) ∧ w'.cell? ⟨q, 9, none⟩ = some (.int .i64 r.h.block) ∧ w'.cell? ⟨q, 12, none⟩ = some (.slice B2 nb2 cb2)) := fun w' hf => ⟨(hf.cell (World.block_lt_of_cell? W3 _ bp1)).trans bp1, (hf.cell (World.block_lt_of_cell? W3 _ bx2)).trans bx2, (hf.cell (World.block_lt_of_cell? W3 _ bx4)).trans bx4, (hf.cell (World.block_lt_of_cell? W3 _ bx5)).trans bx5, (hf.cell (World.block_lt_of_cell? W3 _ bx6)).trans bx6, (hf.cell (World.block_lt_of_cell? W3 _ bx7)).trans bx7, (hf.cell (World.block_lt_of_cell? W3 _ bx8)).trans bx8, (hf.cell (World.block_lt_of_cell? W3 _ bx9)).trans bx9, (hf.cell (World.block_lt_of_cell? W3 _ bx12)).trans bx12⟩
        clear hbx hqx bp0 bp1 bp2 bp3 bx0 bx1 bx2 bx3 bx4 bx5 bx6 bx7 bx8 bx9 bx10 bx11 bx12
        go_upto_region 12 with fail
        refine last_begin 18 (n := 19) (bs := #[false, false, false, false, false, false, false, false, false, false, false, false, false, false, false, false, false, false, false]) rfl rfl (by kernel_rfl) (S := fun w' => w'.cell? ⟨pb, 1, none⟩ = some (.slice (some ad) n c) ∧ w'.cell? ⟨q, 2, none⟩ = some (.int .i64 r.n) ∧ w'.cell? ⟨q, 4, none⟩ = some (.int .i64 r.h.frm) ∧ w'.cell? ⟨q, 5, none⟩ = some (.int .i64 r.h.seq) ∧ w'.cell? ⟨q, 6, none⟩ = some (.int .i64 r.h.to) ∧ w'.cell? ⟨q, 7, none⟩ = some (.int .i64 r.h.till) ∧ w'.cell? ⟨q, 8, none⟩ = some (.int .i64 r.h.bytes) ∧ w'.cell? ⟨q, 9, none⟩ = some (.int .i64 r.h.block) ∧ w'.cell? ⟨q, 12, none⟩ = some (.slice B2 nb2 cb2)) (hSC.out _ (Below.refl _ _).drew) (fun hHeld => ?_)
        ((first | (refine last_skip (i := 0) (a' := ?hA196) (l' := ?hL196) rfl (by kernel_rfl) (by kernel_rfl) (by kernel_rfl) (by kernel_rfl) (fun _ _ _ h => h) (by rfl) (by assumption) ?ha196 ?hl196 ?hh196; (case ha196 => (simp only [Act.put, hq1, hq2, hq3, Option.isNone, Bool.not_true, Bool.not_false]; (try with_reducible rfl))); (case hl196 => (simp only [Act.put, hq1, hq2, hq3, Option.isNone, Bool.not_true, Bool.not_false]; (try with_reducible rfl)))) | (refine last_take (i := 0) (v := ?hV196) (a' := ?hA196) (l' := ?hL196) rfl (by kernel_rfl) (by kernel_rfl) (by kernel_rfl) (by kernel_rfl) (fun _ _ _ h => h) (by rfl) ?hv196 (by assumption) ?ha196 ?hl196 ?hh196; (case hv196 => (intro w hSw; (try dsimp only at hSw); go_simp; (try simp only [run_eql_slice_nil _ 36 _ _ _ _ Try.underlying36, Result.andThen_ok]); (try with_reducible rfl))); (case ha196 => (simp only [Act.put, hq1, hq2, hq3, Option.isNone, Bool.not_true, Bool.not_false]; (try with_reducible rfl))); (case hl196 => (simp only [Act.put, hq1, hq2, hq3, Option.isNone, Bool.not_true, Bool.not_false]; (try with_reducible rfl))))); (first | (refine last_skip (i := 1) (a' := ?hA197) (l' := ?hL197) rfl (by kernel_rfl) (by kernel_rfl) (by kernel_rfl) (by kernel_rfl) (fun _ _ _ h => h) (by rfl) (by assumption) ?ha197 ?hl197 ?hh197; (case ha197 => (simp only [Act.put, hq1, hq2, hq3, Option.isNone, Bool.not_true, Bool.not_false]; (try with_reducible rfl))); (case hl197 => (simp only [Act.put, hq1, hq2, hq3, Option.isNone, Bool.not_true, Bool.not_false]; (try with_reducible rfl)))) | (refine last_take (i := 1) (v := ?hV197) (a' := ?hA197) (l' := ?hL197) rfl (by kernel_rfl) (by kernel_rfl) (by kernel_rfl) (by kernel_rfl) (fun _ _ _ h => h) (by rfl) ?hv197 (by assumption) ?ha197 ?hl197 ?hh197; (case hv197 => (intro w hSw; (try dsimp only at hSw); go_simp; (try simp only [run_eql_slice_nil _ 36 _ _ _ _ Try.underlying36, Result.andThen_ok]); (try with_reducible rfl))); (case ha197 => (simp only [Act.put, hq1, hq2, hq3, Option.isNone, Bool.not_true, Bool.not_false]; (try with_reducible rfl))); (case hl197 => (simp only [Act.put, hq1, hq2, hq3, Option.isNone, Bool.not_true, Bool.not_false]; (try with_reducible rfl))))); (first | (refine last_skip (i := 2) (a' := ?hA198) (l' := ?hL198) rfl (by kernel_rfl) (by kernel_rfl) (by kernel_rfl) (by kernel_rfl) (fun _ _ _ h => h) (by rfl) (by assumption) ?ha198 ?hl198 ?hh198; (case ha198 => (simp only [Act.put, hq1, hq2, hq3, Option.isNone, Bool.not_true, Bool.not_false]; (try with_reducible rfl))); (case hl198 => (simp only [Act.put, hq1, hq2, hq3, Option.isNone, Bool.not_true, Bool.not_false]; (try with_reducible rfl)))) | (refine last_take (i := 2) (v := ?hV198) (a' := ?hA198) (l' := ?hL198) rfl (by kernel_rfl) (by kernel_rfl) (by kernel_rfl) (by kernel_rfl) (fun _ _ _ h => h) (by rfl) ?hv198 (by assumption) ?ha198 ?hl198 ?hh198; (case hv198 => (intro w hSw; (try dsimp only at hSw); go_simp; (try simp only [run_eql_slice_nil _ 36 _ _ _ _ Try.underlying36, Result.andThen_ok]); (try with_reducible rfl))); (case ha198 => (simp only [Act.put, hq1, hq2, hq3, Option.isNone, Bool.not_true, Bool.not_false]; (try with_reducible rfl))); (case hl198 => (simp only [Act.put, hq1, hq2, hq3, Option.isNone, Bool.not_true, Bool.not_false]; (try with_reducible rfl))))); (first | (refine last_skip (i := 3) (a' := ?hA199) (l' := ?hL199) rfl (by kernel_rfl) (by kernel_rfl) (by kernel_rfl) (by kernel_rfl) (fun _ _ _ h => h) (by rfl) (by assumption) ?ha199 ?hl199 ?hh199; (case ha199 => (simp only [Act.put, hq1, hq2, hq3, Option.isNone, Bool.not_true, Bool.not_false]; (try with_reducible rfl))); (case hl199 => (simp only [Act.put, hq1, hq2, hq3, Option.isNone, Bool.not_true, Bool.not_false]; (try with_reducible rfl)))) | (refine last_take (i := 3) (v := ?hV199) (a' := ?hA199) (l' := ?hL199) rfl (by kernel_rfl) (by kernel_rfl) (by kernel_rfl) (by kernel_rfl) (fun _ _ _ h => h) (by rfl) ?hv199 (by assumption) ?ha199 ?hl199 ?hh199; (case hv199 => (intro w hSw; (try dsimp only at hSw); go_simp; (try simp only [run_eql_slice_nil _ 36 _ _ _ _ Try.underlying36, Result.andThen_ok]); (try with_reducible rfl))); (case ha199 => (simp only [Act.put, hq1, hq2, hq3, Option.isNone, Bool.not_true, Bool.not_false]; (try with_reducible rfl))); (case hl199 => (simp only [Act.put, hq1, hq2, hq3, Option.isNone, Bool.not_true, Bool.not_false]; (try with_reducible rfl))))); (first | (refine last_skip (i := 4) (a' := ?hA200) (l' := ?hL200) rfl (by kernel_rfl) (by kernel_rfl) (by kernel_rfl) (by kernel_rfl) (fun _ _ _ h => h) (by rfl) (by assumption) ?ha200 ?hl200 ?hh200; (case ha200 => (simp only [Act.put, hq1, hq2, hq3, Option.isNone, Bool.not_true, Bool.not_false]; (try with_reducible rfl))); (case hl200 => (simp only [Act.put, hq1, hq2, hq3, Option.isNone, Bool.not_true, Bool.not_false]; (try with_reducible rfl)))) | (refine last_take (i := 4) (v := ?hV200) (a' := ?hA200) (l' := ?hL200) rfl (by kernel_rfl) (by kernel_rfl) (by kernel_rfl) (by kernel_rfl) (fun _ _ _ h => h) (by rfl) ?hv200 (by assumption) ?ha200 ?hl200 ?hh200; (case hv200 => (intro w hSw; (try dsimp only at hSw); go_simp; (try simp only [run_eql_slice_nil _ 36 _ _ _ _ Try.underlying36, Result.andThen_ok]); (try with_reducible rfl))); (case ha200 => (simp only [Act.put, hq1, hq2, hq3, Option.isNone, Bool.not_true, Bool.not_false]; (try with_reducible rfl))); (case hl200 => (simp only [Act.put, hq1, hq2, hq3, Option.isNone, Bool.not_true, Bool.not_false]; (try with_reducible rfl))))); (first | (refine last_skip (i := 5) (a' := ?hA201) (l' := ?hL201) rfl (by kernel_rfl) (by kernel_rfl) (by kernel_rfl) (by kernel_rfl) (fun _ _ _ h => h) (by rfl) (by assumption) ?ha201 ?hl201 ?hh201; (case ha201 => (simp only [Act.put, hq1, hq2, hq3, Option.isNone, Bool.not_true, Bool.not_false]; (try with_reducible rfl))); (case hl201 => (simp only [Act.put, hq1, hq2, hq3, Option.isNone, Bool.not_true, Bool.not_false]; (try with_reducible rfl)))) | (refine last_take (i := 5) (v := ?hV201) (a' := ?hA201) (l' := ?hL201) rfl (by kernel_rfl) (by kernel_rfl) (by kernel_rfl) (by kernel_rfl) (fun _ _ _ h => h) (by rfl) ?hv201 (by assumption) ?ha201 ?hl201 ?hh201; (case hv201 => (intro w hSw; (try dsimp only at hSw); go_simp; (try simp only [run_eql_slice_nil _ 36 _ _ _ _ Try.underlying36, Result.andThen_ok]); (try with_reducible rfl))); (case ha201 => (simp only [Act.put, hq1, hq2, hq3, Option.isNone, Bool.not_true, Bool.not_false]; (try with_reducible rfl))); (case hl201 => (simp only [Act.put, hq1, hq2, hq3, Option.isNone, Bool.not_true, Bool.not_false]; (try with_reducible rfl))))); (first | (refine last_skip (i := 6) (a' := ?hA202) (l' := ?hL202) rfl (by kernel_rfl) (by kernel_rfl) (by kernel_rfl) (by kernel_rfl) (fun _ _ _ h => h) (by rfl) (by assumption) ?ha202 ?hl202 ?hh202; (case ha202 => (simp only [Act.put, hq1, hq2, hq3, Option.isNone, Bool.not_true, Bool.not_false]; (try with_reducible rfl))); (case hl202 => (simp only [Act.put, hq1, hq2, hq3, Option.isNone, Bool.not_true, Bool.not_false]; (try with_reducible rfl)))) | (refine last_take (i := 6) (v := ?hV202) (a' := ?hA202) (l' := ?hL202) rfl (by kernel_rfl) (by kernel_rfl) (by kernel_rfl) (by kernel_rfl) (fun _ _ _ h => h) (by rfl) ?hv202 (by assumption) ?ha202 ?hl202 ?hh202; (case hv202 => (intro w hSw; (try dsimp only at hSw); go_simp; (try simp only [run_eql_slice_nil _ 36 _ _ _ _ Try.underlying36, Result.andThen_ok]); (try with_reducible rfl))); (case ha202 => (simp only [Act.put, hq1, hq2, hq3, Option.isNone, Bool.not_true, Bool.not_false]; (try with_reducible rfl))); (case hl202 => (simp only [Act.put, hq1, hq2, hq3, Option.isNone, Bool.not_true, Bool.not_false]; (try with_reducible rfl))))); (first | (refine last_skip (i := 7) (a' := ?hA203) (l' := ?hL203) rfl (by kernel_rfl) (by kernel_rfl) (by kernel_rfl) (by kernel_rfl) (fun _ _ _ h => h) (by rfl) (by assumption) ?ha203 ?hl203 ?hh203; (case ha203 => (simp only [Act.put, hq1, hq2, hq3, Option.isNone, Bool.not_true, Bool.not_false]; (try with_reducible rfl))); (case hl203 => (simp only [Act.put, hq1, hq2, hq3, Option.isNone, Bool.not_true, Bool.not_false]; (try with_reducible rfl)))) | (refine last_take (i := 7) (v := ?hV203) (a' := ?hA203) (l' := ?hL203) rfl (by kernel_rfl) (by kernel_rfl) (by kernel_rfl) (by kernel_rfl) (fun _ _ _ h => h) (by rfl) ?hv203 (by assumption) ?ha203 ?hl203 ?hh203; (case hv203 => (intro w hSw; (try dsimp only at hSw); go_simp; (try simp only [run_eql_slice_nil _ 36 _ _ _ _ Try.underlying36, Result.andThen_ok]); (try with_reducible rfl))); (case ha203 => (simp only [Act.put, hq1, hq2, hq3, Option.isNone, Bool.not_true, Bool.not_false]; (try with_reducible rfl))); (case hl203 => (simp only [Act.put, hq1, hq2, hq3, Option.isNone, Bool.not_true, Bool.not_false]; (try with_reducible rfl))))); (first | (refine last_skip (i := 8) (a' := ?hA204) (l' := ?hL204) rfl (by kernel_rfl) (by kernel_rfl) (by kernel_rfl) (by kernel_rfl) (fun _ _ _ h => h) (by rfl) (by assumption) ?ha204 ?hl204 ?hh204; (case ha204 => (simp only [Act.put, hq1, hq2, hq3, Option.isNone, Bool.not_true, Bool.not_false]; (try with_reducible rfl))); (case hl204 => (simp only [Act.put, hq1, hq2, hq3, Option.isNone, Bool.not_true, Bool.not_false]; (try with_reducible rfl)))) | (refine last_take (i := 8) (v := ?hV204) (a' := ?hA204) (l' := ?hL204) rfl (by kernel_rfl) (by kernel_rfl) (by kernel_rfl) (by kernel_rfl) (fun _ _ _ h => h) (by rfl) ?hv204 (by assumption) ?ha204 ?hl204 ?hh204; (case hv204 => (intro w hSw; (try dsimp only at hSw); go_simp; (try simp only [run_eql_slice_nil _ 36 _ _ _ _ Try.underlying36, Result.andThen_ok]); (try with_reducible rfl))); (case ha204 => (simp only [Act.put, hq1, hq2, hq3, Option.isNone, Bool.not_true, Bool.not_false]; (try with_reducible rfl))); (case hl204 => (simp only [Act.put, hq1, hq2, hq3, Option.isNone, Bool.not_true, Bool.not_false]; (try with_reducible rfl))))); (first | (refine last_skip (i := 9) (a' := ?hA205) (l' := ?hL205) rfl (by kernel_rfl) (by kernel_rfl) (by kernel_rfl) (by kernel_rfl) (fun _ _ _ h => h) (by rfl) (by assumption) ?ha205 ?hl205 ?hh205; (case ha205 => (simp only [Act.put, hq1, hq2, hq3, Option.isNone, Bool.not_true, Bool.not_false]; (try with_reducible rfl))); (case hl205 => (simp only [Act.put, hq1, hq2, hq3, Option.isNone, Bool.not_true, Bool.not_false]; (try with_reducible rfl)))) | (refine last_take (i := 9) (v := ?hV205) (a' := ?hA205) (l' := ?hL205) rfl (by kernel_rfl) (by kernel_rfl) (by kernel_rfl) (by kernel_rfl) (fun _ _ _ h => h) (by rfl) ?hv205 (by assumption) ?ha205 ?hl205 ?hh205; (case hv205 => (intro w hSw; (try dsimp only at hSw); go_simp; (try simp only [run_eql_slice_nil _ 36 _ _ _ _ Try.underlying36, Result.andThen_ok]); (try with_reducible rfl))); (case ha205 => (simp only [Act.put, hq1, hq2, hq3, Option.isNone, Bool.not_true, Bool.not_false]; (try with_reducible rfl))); (case hl205 => (simp only [Act.put, hq1, hq2, hq3, Option.isNone, Bool.not_true, Bool.not_false]; (try with_reducible rfl))))); (first | (refine last_skip (i := 11) (a' := ?hA206) (l' := ?hL206) rfl (by kernel_rfl) (by kernel_rfl) (by kernel_rfl) (by kernel_rfl) (fun _ _ _ h => h) (by rfl) (by assumption) ?ha206 ?hl206 ?hh206; (case ha206 => (simp only [Act.put, hq1, hq2, hq3, Option.isNone, Bool.not_true, Bool.not_false]; (try with_reducible rfl))); (case hl206 => (simp only [Act.put, hq1, hq2, hq3, Option.isNone, Bool.not_true, Bool.not_false]; (try with_reducible rfl)))) | (refine last_take (i := 11) (v := ?hV206) (a' := ?hA206) (l' := ?hL206) rfl (by kernel_rfl) (by kernel_rfl) (by kernel_rfl) (by kernel_rfl) (fun _ _ _ h => h) (by rfl) ?hv206 (by assumption) ?ha206 ?hl206 ?hh206; (case hv206 => (intro w hSw; (try dsimp only at hSw); go_simp; (try simp only [run_eql_slice_nil _ 36 _ _ _ _ Try.underlying36, Result.andThen_ok]); (try with_reducible rfl))); (case ha206 => (simp only [Act.put, hq1, hq2, hq3, Option.isNone, Bool.not_true, Bool.not_false]; (try with_reducible rfl))); (case hl206 => (simp only [Act.put, hq1, hq2, hq3, Option.isNone, Bool.not_true, Bool.not_false]; (try with_reducible rfl))))); (first | (refine last_skip (i := 12) (a' := ?hA207) (l' := ?hL207) rfl (by kernel_rfl) (by kernel_rfl) (by kernel_rfl) (by kernel_rfl) (fun _ _ _ h => h) (by rfl) (by assumption) ?ha207 ?hl207 ?hh207; (case ha207 => (simp only [Act.put, hq1, hq2, hq3, Option.isNone, Bool.not_true, Bool.not_false]; (try with_reducible rfl))); (case hl207 => (simp only [Act.put, hq1, hq2, hq3, Option.isNone, Bool.not_true, Bool.not_false]; (try with_reducible rfl)))) | (refine last_take (i := 12) (v := ?hV207) (a' := ?hA207) (l' := ?hL207) rfl (by kernel_rfl) (by kernel_rfl) (by kernel_rfl) (by kernel_rfl) (fun _ _ _ h => h) (by rfl) ?hv207 (by assumption) ?ha207 ?hl207 ?hh207; (case hv207 => (intro w hSw; (try dsimp only at hSw); go_simp; (try simp only [run_eql_slice_nil _ 36 _ _ _ _ Try.underlying36, Result.andThen_ok]); (try with_reducible rfl))); (case ha207 => (simp only [Act.put, hq1, hq2, hq3, Option.isNone, Bool.not_true, Bool.not_false]; (try with_reducible rfl))); (case hl207 => (simp only [Act.put, hq1, hq2, hq3, Option.isNone, Bool.not_true, Bool.not_false]; (try with_reducible rfl))))))
        refine last_one (i := 10) rfl (by kernel_rfl) (fun K hK => ?_)
        go_simp
        go_at_call 25
        (with_reducible refine (cloneBytes_any _ _ _ _ r.cargo (HYS.out.go sByte (HF3.out.trans (Below.refl _ _).drew)) HYL.out).mono ?_)
        rintro e w5 ⟨v5, rfl, ho5, hf5⟩
        obtain ⟨A5, c5, rfl, hd5, hs5⟩ := own_bytes ho5
        have HF35 : Hid (Fr W3 w5) := Fr.trans (Below.refl _ _).drew hf5
        have HS5 : Hid (Sl 1 eByte w5 (NW W3.heap.size w5.heap.size) A5 r.cargo.length r.cargo) := hs5
        have HD5 := Lib.hid hd5
        clear ho5 hf5 hs5 hd5
        (refine last_back hK (a' := ?hA242) (l' := ?hL242) ?ha242 ?hl242 (hSC.out _ HF35.out) (fun hHeld => ?hh242); (case ha242 => first | with_reducible rfl | (simp only [Act.put, hq1, hq2, hq3, Option.isNone, Bool.not_true, Bool.not_false]; (try with_reducible rfl))); (case hl242 => (simp only [Act.put, hq1, hq2, hq3, Option.isNone, Bool.not_true, Bool.not_false]; (try with_reducible rfl))); clear hK K)
        ((first | (refine last_skip (i := 13) (a' := ?hA208) (l' := ?hL208) rfl (by kernel_rfl) (by kernel_rfl) (by kernel_rfl) (by kernel_rfl) (fun _ _ _ h => h) (by rfl) (by assumption) ?ha208 ?hl208 ?hh208; (case ha208 => (simp only [Act.put, hq1, hq2, hq3, Option.isNone, Bool.not_true, Bool.not_false]; (try with_reducible rfl))); (case hl208 => (simp only [Act.put, hq1, hq2, hq3, Option.isNone, Bool.not_true, Bool.not_false]; (try with_reducible rfl)))) | (refine last_take (i := 13) (v := ?hV208) (a' := ?hA208) (l' := ?hL208) rfl (by kernel_rfl) (by kernel_rfl) (by kernel_rfl) (by kernel_rfl) (fun _ _ _ h => h) (by rfl) ?hv208 (by assumption) ?ha208 ?hl208 ?hh208; (case hv208 => (intro w hSw; (try dsimp only at hSw); go_simp; (try simp only [run_eql_slice_nil _ 36 _ _ _ _ Try.underlying36, Result.andThen_ok]); (try with_reducible rfl))); (case ha208 => (simp only [Act.put, hq1, hq2, hq3, Option.isNone, Bool.not_true, Bool.not_false]; (try with_reducible rfl))); (case hl208 => (simp only [Act.put, hq1, hq2, hq3, Option.isNone, Bool.not_true, Bool.not_false]; (try with_reducible rfl))))))
        refine last_one (i := 14) rfl (by kernel_rfl) (fun K hK => ?_)
        go_simp
        obtain ⟨W6, hW6⟩ : ∃ W6, W6 = w5.alloc (.cells #[.int .i64 r.h.frm, .int .i64 r.h.seq, .int .i64 r.h.to, .int .i64 r.h.till, .int .i64 r.h.bytes, .int .i64 r.h.block, .bool true, .slice A5 r.cargo.length c5, .slice none 0 0, .int .i64 r.n, .int .i64 0, .int .i64 0, .int .i64 0, .slice none 0 0, .bool false, .bool false] 46) := ⟨_, rfl⟩
        obtain ⟨vb, hvb⟩ : ∃ vb, vb = w5.heap.size := ⟨_, rfl⟩
        have HF56 : Hid (Fr w5 W6) := by rw [hW6]; exact frAlloc _ _
        have HV6 : Hid (W6.heap[vb]? = some (.cells (kpCells (Kp.sent r) A5 r.cargo.length c5 (.slice none 0 0) (.slice none 0 0)).toArray 46 (0, 0))) := by rw [hW6]; exact heap_new hvb
        have HF36 : Hid (Fr W3 W6) := HF35.out.trans HF56.out
        have H6 : Hid (PlM W6 base pb p (some ad) c) := H3.out.fr HF36.out
        have HO6 : Hid (Own 16 (eHi base eKq) W6 base 46 (.slice (some ad) n c) (p.keep.map fun x => (false, x))) := by
          have := H6.out.own.toQ
          rw [← HN.out] at this
          exact this
        have HX6 : Hid (eHi base eKq W6 (fun b => b < W6.heap.size ∧ (Value.slice (some ad) n c).ownBlock ≠ some b) (fun j => (kpCells (Kp.sent r) A5 r.cargo.length c5 (.slice none 0 0) (.slice none 0 0))[j]?) (false, Kp.sent r)) := by
          have w0 : wfI 0 := wfI.mk (by decide)
          refine ⟨eKp_iff.2 ⟨A5, r.cargo.length, c5, none, 0, 0, none, 0, 0, ⟨rfl, rfl, rfl, rfl, rfl, rfl, rfl, rfl, rfl, rfl, rfl, rfl, rfl, rfl, rfl, rfl⟩, ⟨hwh, hwn, w0, w0, w0⟩, ⟨⟨by rw [HYN.out]; exact HYL.out, HD5.out⟩, ?_⟩, ⟨⟨by unfold lim; omega, by omega, by unfold maxLen; omega⟩, Sl.nil⟩, ⟨by unfold lim; omega, by omega, by unfold maxLen; omega⟩, Sl.nil⟩, fun e => by cases e⟩
          refine (HS5.out.keep sByte fun b hb => HF56.out.cell hb.2).more sByte fun b hb => ⟨⟨Nat.lt_of_lt_of_le hb.2 HF56.out.size, fun e => ?_⟩, ?_⟩
          · have h1 := H3.out.own
            rw [← HN.out] at h1
            have := (h1.ge e).2
            have := hb.1
            omega
          · have := hb.1
            have := HF3.out.size
            omega
        rw [← hW6, ← hvb]
        have HVB := Lib.hid hvb
        clear hW6 hvb
        (refine last_back hK (a' := ?hA243) (l' := ?hL243) ?ha243 ?hl243 (hSC.out _ HF36.out) (fun hHeld => ?hh243); (case ha243 => first | with_reducible rfl | (simp only [Act.put, hq1, hq2, hq3, Option.isNone, Bool.not_true, Bool.not_false]; (try with_reducible rfl))); (case hl243 => (simp only [Act.put, hq1, hq2, hq3, Option.isNone, Bool.not_true, Bool.not_false]; (try with_reducible rfl))); clear hK K)
        refine last_one (i := 15) rfl (by kernel_rfl) (fun K hK => ?_)
        go_simp
        go_at_call 41
        with_reducible refine (insertKepts_own (N := base) W6 base pa vb (.slice (some ad) n c) (p.keep.map fun x => (false, x)) (false, Kp.sent r) (kpCells (Kp.sent r) A5 r.cargo.length c5 (.slice none 0 0) (.slice none 0 0)) 46 HO6.out (by rw [List.length_map, ← HN.out]; omega) HV6.out (fun e => by have := (HO6.out.ge e).2; have h1 := H3.out.own; rw [← HN.out] at h1; have := (h1.ge e).2; have := HF35.out.size; have := HVB.out; omega) rfl (by simp [kpCells, Value.oneCell']) HX6.out (by rw [List.length_map, ← HN.out]; unfold lim; omega) (by have := HF3.out.size; have := HF36.out.size; omega)).mono ?_
        rintro e w7 ⟨v7, rfl, ho7, hg7⟩
        obtain ⟨A7, n7, c7, rfl⟩ := own_isSl ho7
        have hno : ∀ b, (Value.slice (some ad) n c).ownBlock = some b → base ≤ b ∧ b < w.heap.size := fun b hb => by
          have h1 := H.out.own
          rw [← HN.out] at h1
          exact h1.ge hb
        have hk7 : Chg (fun b => (Value.slice (some ad) n c).ownBlock = some b) W6 w7 := ⟨hg7.os, hg7.tape, hg7.output, hg7.size, fun b hb hs => hg7.block b hb fun e => hs e.symm⟩
        have hno1 : ¬ (Value.slice (some ad) n c).ownBlock = some pb := fun e => by have := hno _ e; omega
        have hno2 : ¬ (Value.slice (some ad) n c).ownBlock = some q := fun e => by have := hno _ e; have := HQW.out; omega
        have hS7 : w7.cell? ⟨pb, 1, none⟩ = some (.slice (some ad) n c) ∧ w7.cell? ⟨q, 2, none⟩ = some (.int .i64 r.n) ∧ w7.cell? ⟨q, 4, none⟩ = some (.int .i64 r.h.frm) ∧ w7.cell? ⟨q, 5, none⟩ = some (.int .i64 r.h.seq) ∧ w7.cell? ⟨q, 6, none⟩ = some (.int .i64 r.h.to) ∧ w7.cell? ⟨q, 7, none⟩ = some (.int .i64 r.h.till) ∧ w7.cell? ⟨q, 8, none⟩ = some (.int .i64 r.h.bytes) ∧ w7.cell? ⟨q, 9, none⟩ = some (.int .i64 r.h.block) ∧ w7.cell? ⟨q, 12, none⟩ = some (.slice B2 nb2 cb2) := by
          obtain ⟨k1, k2, k3, k4, k5, k6, k7, k8, k9⟩ := hSC.out _ HF36.out
          exact ⟨(hk7.cell (World.block_lt_of_cell? W6 _ k1) hno1).trans k1, (hk7.cell (World.block_lt_of_cell? W6 _ k2) hno2).trans k2, (hk7.cell (World.block_lt_of_cell? W6 _ k3) hno2).trans k3, (hk7.cell (World.block_lt_of_cell? W6 _ k4) hno2).trans k4, (hk7.cell (World.block_lt_of_cell? W6 _ k5) hno2).trans k5, (hk7.cell (World.block_lt_of_cell? W6 _ k6) hno2).trans k6, (hk7.cell (World.block_lt_of_cell? W6 _ k7) hno2).trans k7, (hk7.cell (World.block_lt_of_cell? W6 _ k8) hno2).trans k8, (hk7.cell (World.block_lt_of_cell? W6 _ k9) hno2).trans k9⟩
        have hb7 := hk7.blk H6.out.blk hno1
        rw [← HN.out] at hb7
        have HO7 := Lib.hid ho7
        have HK7 := Lib.hid hk7
        (refine last_back hK (a' := ?hA244) (l' := ?hL244) ?ha244 ?hl244 (hS7) (fun hHeld => ?hh244); (case ha244 => first | with_reducible rfl | (simp only [Act.put, hq1, hq2, hq3, Option.isNone, Bool.not_true, Bool.not_false]; (try with_reducible rfl))); (case hl244 => (simp only [Act.put, hq1, hq2, hq3, Option.isNone, Bool.not_true, Bool.not_false]; (try with_reducible rfl))); clear hK K)
        refine last_one (i := 16) rfl (by kernel_rfl) (fun K hK => ?_)
        go_simp
        (refine last_back hK (a' := ?hA245) (l' := ?hL245) ?ha245 ?hl245 (hS7) (fun hHeld => ?hh245); (case ha245 => first | with_reducible rfl | (simp only [Act.put, hq1, hq2, hq3, Option.isNone, Bool.not_true, Bool.not_false]; (try with_reducible rfl))); (case hl245 => (simp only [Act.put, hq1, hq2, hq3, Option.isNone, Bool.not_true, Bool.not_false]; (try with_reducible rfl))); clear hK K)
        ((first | (refine last_skip (i := 17) (a' := ?hA209) (l' := ?hL209) rfl (by kernel_rfl) (by kernel_rfl) (by kernel_rfl) (by kernel_rfl) (fun _ _ _ h => h) (by rfl) (by assumption) ?ha209 ?hl209 ?hh209; (case ha209 => (simp only [Act.put, hq1, hq2, hq3, Option.isNone, Bool.not_true, Bool.not_false]; (try with_reducible rfl))); (case hl209 => (simp only [Act.put, hq1, hq2, hq3, Option.isNone, Bool.not_true, Bool.not_false]; (try with_reducible rfl)))) | (refine last_take (i := 17) (v := ?hV209) (a' := ?hA209) (l' := ?hL209) rfl (by kernel_rfl) (by kernel_rfl) (by kernel_rfl) (by kernel_rfl) (fun _ _ _ h => h) (by rfl) ?hv209 (by assumption) ?ha209 ?hl209 ?hh209; (case hv209 => (intro w hSw; (try dsimp only at hSw); go_simp; (try simp only [run_eql_slice_nil _ 36 _ _ _ _ Try.underlying36, Result.andThen_ok]); (try with_reducible rfl))); (case ha209 => (simp only [Act.put, hq1, hq2, hq3, Option.isNone, Bool.not_true, Bool.not_false]; (try with_reducible rfl))); (case hl209 => (simp only [Act.put, hq1, hq2, hq3, Option.isNone, Bool.not_true, Bool.not_false]; (try with_reducible rfl))))))
        have y1 := blk_free (i := 1) hb7
        have hpl7 := (Array.getElem?_eq_some_iff.1 hb7).1
        have mp1 := hS7.1
        refine last_one (i := 18) rfl (by kernel_rfl) (fun K hK => ?_)
        go_simp
        refine last_end hK (by kernel_rfl) ?_
        clear hK K
        obtain rfl : n7 = (insKp p.keep (Kp.sent r)).length := by
          rw [HO7.out.len _ _ _ rfl]
          unfold insKp
          rw [show placeAt p.keep (Kp.sent r).h = pa from Hpa.out.symm]
          simp
        obtain ⟨W8, hW8⟩ : ∃ W8, W8 = w7.setCell ⟨pb, 1, none⟩ (.slice A7 (insKp p.keep (Kp.sent r)).length c7) := ⟨_, rfl⟩
        have hb8 : W8.heap[pb]? = some (.cells #[.int .i64 p.me, .slice A7 (insKp p.keep (Kp.sent r)).length c7, .int .i64 p.time, .int .i64 p.seq] 25 (0, 0)) := by rw [hW8]; have := heap_setCell_same w7 pb 1 _ _ (.slice A7 (insKp p.keep (Kp.sent r)).length c7) hb7; simpa using this
        have hk8 : Chg (fun b => b = pb) w7 W8 := by rw [hW8]; exact Chg.set (S := fun b => b = pb) (p := ⟨pb, 1, none⟩) (Chg.refl _ _) rfl _
        rw [← hW8]
        (obtain ⟨bp0, bp1, bp2, bp3⟩ := box4_ hb8)
        have y3 := blk_free (i := 3) hb8
        have hpl8 := (Array.getElem?_eq_some_iff.1 hb8).1
        have hws : IntKind.i64.wrap (p.seq + 1) = p.seq + 1 := by rw [IntKind.wrap_i64]; omega
        have hk9 : Chg (fun b => b = pb) w7 (W8.setCell ⟨pb, 3, none⟩ (.int .i64 (p.seq + 1))) := Chg.set (S := fun b => b = pb) (p := ⟨pb, 3, none⟩) hk8 rfl _
        have HP9 : Hid (PlM (W8.setCell ⟨pb, 3, none⟩ (.int .i64 (p.seq + 1))) base pb { p with keep := insKp p.keep (Kp.sent r), seq := p.seq + 1 } A7 c7) := by
          refine ⟨?_, hpb, ?_⟩
          · have := heap_setCell_same W8 pb 3 _ _ (.int .i64 (p.seq + 1)) hb8
            simpa using this
          · have h1 := HO7.out.ofQ
            have e1 : (List.take pa (p.keep.map fun x => (false, x)) ++ (false, Kp.sent r) :: List.drop pa (p.keep.map fun x => (false, x))).map (·.2) = insKp p.keep (Kp.sent r) := by
              unfold insKp
              rw [show placeAt p.keep (Kp.sent r).h = pa from Hpa.out.symm]
              simp [List.map_take, List.map_drop, List.map_map, Function.comp_def]
            rw [e1] at h1
            exact h1.hiChg sKp hk9 fun b hb => by rw [hb]; exact hpb
        have HC9 : Hid (Chg (PlS base pb) w (W8.setCell ⟨pb, 3, none⟩ (.int .i64 (p.seq + 1)))) := by
          have q1 : Chg (PlS base pb) w W6 := (HF3.out.trans HF36.out).chg
          have q2 : Chg (PlS base pb) W6 w7 := HK7.out.more fun b hb => .inr (hno b hb).1
          exact (q1.trans q2).trans (hk9.more fun b hb => .inl hb)
        clear hb7 hb8 hk8 hk9 hk7 hW8 hS7 y1 hpl7 mp1 hno hno1 hno2 hSC
        go_wp2_with fail
        go_ret
        rw [E4.out]
        exact ⟨rfl, HC9.out, _, _, HP9.out⟩
    · have hkn : k = n := by omega
      have hkp : pa = k := by rw [HS.out, List.drop_eq_nil_of_le (by rw [← HN.out]; omega)]; simp
      subst hkp
      have tk : decide ((pa : Int) < (n : Int)) = false := by simp; omega
      clear hkn
      clear HS bx4 bx5 bx6 bx7 bx8 bx9
      go_upto_region 10 with fail
      go_quiet (fail)
      obtain ⟨W3, hW3⟩ : ∃ W3, W3 = (wr.drewN nq) := ⟨_, rfl⟩
      have HF23 : Hid (Fr W2 W3) := by rw [hW3]; exact (by (repeat' (first | exact Below.refl _ _ | refine below_drewN ?_ _ | refine Below.drew ?_ | refine frA ?_ _ | refine Fr.trans ?_ HF.out)))
      rw [← hW3]
      clear hW3
      have HF3 : Hid (Fr w W3) := HF2.out.trans HF23.out
      have H3 := Lib.hid (H.out.fr HF3.out)
      have HQ3 := Lib.hid (blk_go HQ2.out HF23.out)
      have hbx := H3.out.blk
      rw [← HN.out] at hbx
      have hqx := HQ3.out
      (obtain ⟨bp0, bp1, bp2, bp3⟩ := box4_ hbx)
      (obtain ⟨bx0, bx1, bx2, bx3, bx4, bx5, bx6, bx7, bx8, bx9, bx10, bx11, bx12⟩ := box13_ hqx)
      have hSC : Hid (∀ w', Fr W3 w' → w'.cell? ⟨pb, 1, none⟩ = some (.slice A n c) ∧ w'.cell? ⟨q, 2, none⟩ = some (.int .i64 r.n) ∧ w'.cell? ⟨q, 4, none⟩ = some (.int .i64 r.h.frm) ∧ w'.cell? ⟨q, 5, none⟩ = some (.int .i64 r.h.seq) ∧ w'.cell? ⟨q, 6, none⟩ = some (.int .i64 r.h.to) ∧ w'.cell? ⟨q, 7, none⟩ = some (.int .i64 r.h.till) ∧ w'.cell? ⟨q, 8, none⟩ = some (.int .i64 r.h.bytes) ∧ w'.cell? ⟨q, 9, none⟩ = some (.int .i64 r.h.block) ∧ w'.cell? ⟨q, 12, none⟩ = some (.slice B2 nb2 cb2)) := fun w' hf => ⟨(hf.cell (World.block_lt_of_cell? W3 _ bp1)).trans bp1, (hf.cell (World.block_lt_of_cell? W3 _ bx2)).trans bx2, (hf.cell (World.block_lt_of_cell? W3 _ bx4)).trans bx4, (hf.cell (World.block_lt_of_cell? W3 _ bx5)).trans bx5, (hf.cell (World.block_lt_of_cell? W3 _ bx6)).trans bx6, (hf.cell (World.block_lt_of_cell? W3 _ bx7)).trans bx7, (hf.cell (World.block_lt_of_cell? W3 _ bx8)).trans bx8, (hf.cell (World.block_lt_of_cell? W3 _ bx9)).trans bx9, (hf.cell (World.block_lt_of_cell? W3 _ bx12)).trans bx12⟩
      clear hbx hqx bp0 bp1 bp2 bp3 bx0 bx1 bx2 bx3 bx4 bx5 bx6 bx7 bx8 bx9 bx10 bx11 bx12
      go_upto_region 12 with fail
      refine last_begin 18 (n := 19) (bs := #[false, false, false, false, false, false, false, false, false, false, false, false, false, false, false, false, false, false, false]) rfl rfl (by kernel_rfl) (S := fun w' => w'.cell? ⟨pb, 1, none⟩ = some (.slice A n c) ∧ w'.cell? ⟨q, 2, none⟩ = some (.int .i64 r.n) ∧ w'.cell? ⟨q, 4, none⟩ = some (.int .i64 r.h.frm) ∧ w'.cell? ⟨q, 5, none⟩ = some (.int .i64 r.h.seq) ∧ w'.cell? ⟨q, 6, none⟩ = some (.int .i64 r.h.to) ∧ w'.cell? ⟨q, 7, none⟩ = some (.int .i64 r.h.till) ∧ w'.cell? ⟨q, 8, none⟩ = some (.int .i64 r.h.bytes) ∧ w'.cell? ⟨q, 9, none⟩ = some (.int .i64 r.h.block) ∧ w'.cell? ⟨q, 12, none⟩ = some (.slice B2 nb2 cb2)) (hSC.out _ (Below.refl _ _).drew) (fun hHeld => ?_)
      ((first | (refine last_skip (i := 0) (a' := ?hA210) (l' := ?hL210) rfl (by kernel_rfl) (by kernel_rfl) (by kernel_rfl) (by kernel_rfl) (fun _ _ _ h => h) (by rfl) (by assumption) ?ha210 ?hl210 ?hh210; (case ha210 => (simp only [Act.put, hq1, hq2, hq3, Option.isNone, Bool.not_true, Bool.not_false]; (try with_reducible rfl))); (case hl210 => (simp only [Act.put, hq1, hq2, hq3, Option.isNone, Bool.not_true, Bool.not_false]; (try with_reducible rfl)))) | (refine last_take (i := 0) (v := ?hV210) (a' := ?hA210) (l' := ?hL210) rfl (by kernel_rfl) (by kernel_rfl) (by kernel_rfl) (by kernel_rfl) (fun _ _ _ h => h) (by rfl) ?hv210 (by assumption) ?ha210 ?hl210 ?hh210; (case hv210 => (intro w hSw; (try dsimp only at hSw); go_simp; (try simp only [run_eql_slice_nil _ 36 _ _ _ _ Try.underlying36, Result.andThen_ok]); (try with_reducible rfl))); (case ha210 => (simp only [Act.put, hq1, hq2, hq3, Option.isNone, Bool.not_true, Bool.not_false]; (try with_reducible rfl))); (case hl210 => (simp only [Act.put, hq1, hq2, hq3, Option.isNone, Bool.not_true, Bool.not_false]; (try with_reducible rfl))))); (first | (refine last_skip (i := 1) (a' := ?hA211) (l' := ?hL211) rfl (by kernel_rfl) (by kernel_rfl) (by kernel_rfl) (by kernel_rfl) (fun _ _ _ h => h) (by rfl) (by assumption) ?ha211 ?hl211 ?hh211; (case ha211 => (simp only [Act.put, hq1, hq2, hq3, Option.isNone, Bool.not_true, Bool.not_false]; (try with_reducible rfl))); (case hl211 => (simp only [Act.put, hq1, hq2, hq3, Option.isNone, Bool.not_true, Bool.not_false]; (try with_reducible rfl)))) | (refine last_take (i := 1) (v := ?hV211) (a' := ?hA211) (l' := ?hL211) rfl (by kernel_rfl) (by kernel_rfl) (by kernel_rfl) (by kernel_rfl) (fun _ _ _ h => h) (by rfl) ?hv211 (by assumption) ?ha211 ?hl211 ?hh211; (case hv211 => (intro w hSw; (try dsimp only at hSw); go_simp; (try simp only [run_eql_slice_nil _ 36 _ _ _ _ Try.underlying36, Result.andThen_ok]); (try with_reducible rfl))); (case ha211 => (simp only [Act.put, hq1, hq2, hq3, Option.isNone, Bool.not_true, Bool.not_false]; (try with_reducible rfl))); (case hl211 => (simp only [Act.put, hq1, hq2, hq3, Option.isNone, Bool.not_true, Bool.not_false]; (try with_reducible rfl))))); (first | (refine last_skip (i := 2) (a' := ?hA212) (l' := ?hL212) rfl (by kernel_rfl) (by kernel_rfl) (by kernel_rfl) (by kernel_rfl) (fun _ _ _ h => h) (by rfl) (by assumption) ?ha212 ?hl212 ?hh212; (case ha212 => (simp only [Act.put, hq1, hq2, hq3, Option.isNone, Bool.not_true, Bool.not_false]; (try with_reducible rfl))); (case hl212 => (simp only [Act.put, hq1, hq2, hq3, Option.isNone, Bool.not_true, Bool.not_false]; (try with_reducible rfl)))) | (refine last_take (i := 2) (v := ?hV212) (a' := ?hA212) (l' := ?hL212) rfl (by kernel_rfl) (by kernel_rfl) (by kernel_rfl) (by kernel_rfl) (fun _ _ _ h => h) (by rfl) ?hv212 (by assumption) ?ha212 ?hl212 ?hh212; (case hv212 => (intro w hSw; (try dsimp only at hSw); go_simp; (try simp only [run_eql_slice_nil _ 36 _ _ _ _ Try.underlying36, Result.andThen_ok]); (try with_reducible rfl))); (case ha212 => (simp only [Act.put, hq1, hq2, hq3, Option.isNone, Bool.not_true, Bool.not_false]; (try with_reducible rfl))); (case hl212 => (simp only [Act.put, hq1, hq2, hq3, Option.isNone, Bool.not_true, Bool.not_false]; (try with_reducible rfl))))); (first | (refine last_skip (i := 3) (a' := ?hA213) (l' := ?hL213) rfl (by kernel_rfl) (by kernel_rfl) (by kernel_rfl) (by kernel_rfl) (fun _ _ _ h => h) (by rfl) (by assumption) ?ha213 ?hl213 ?hh213; (case ha213 => (simp only [Act.put, hq1, hq2, hq3, Option.isNone, Bool.not_true, Bool.not_false]; (try with_reducible rfl))); (case hl213 => (simp only [Act.put, hq1, hq2, hq3, Option.isNone, Bool.not_true, Bool.not_false]; (try with_reducible rfl)))) | (refine last_take (i := 3) (v := ?hV213) (a' := ?hA213) (l' := ?hL213) rfl (by kernel_rfl) (by kernel_rfl) (by kernel_rfl) (by kernel_rfl) (fun _ _ _ h => h) (by rfl) ?hv213 (by assumption) ?ha213 ?hl213 ?hh213; (case hv213 => (intro w hSw; (try dsimp only at hSw); go_simp; (try simp only [run_eql_slice_nil _ 36 _ _ _ _ Try.underlying36, Result.andThen_ok]); (try with_reducible rfl))); (case ha213 => (simp only [Act.put, hq1, hq2, hq3, Option.isNone, Bool.not_true, Bool.not_false]; (try with_reducible rfl))); (case hl213 => (simp only [Act.put, hq1, hq2, hq3, Option.isNone, Bool.not_true, Bool.not_false]; (try with_reducible rfl))))); (first | (refine last_skip (i := 4) (a' := ?hA214) (l' := ?hL214) rfl (by kernel_rfl) (by kernel_rfl) (by kernel_rfl) (by kernel_rfl) (fun _ _ _ h => h) (by rfl) (by assumption) ?ha214 ?hl214 ?hh214; (case ha214 => (simp only [Act.put, hq1, hq2, hq3, Option.isNone, Bool.not_true, Bool.not_false]; (try with_reducible rfl))); (case hl214 => (simp only [Act.put, hq1, hq2, hq3, Option.isNone, Bool.not_true, Bool.not_false]; (try with_reducible rfl)))) | (refine last_take (i := 4) (v := ?hV214) (a' := ?hA214) (l' := ?hL214) rfl (by kernel_rfl) (by kernel_rfl) (by kernel_rfl) (by kernel_rfl) (fun _ _ _ h => h) (by rfl) ?hv214 (by assumption) ?ha214 ?hl214 ?hh214; (case hv214 => (intro w hSw; (try dsimp only at hSw); go_simp; (try simp only [run_eql_slice_nil _ 36 _ _ _ _ Try.underlying36, Result.andThen_ok]); (try with_reducible rfl))); (case ha214 => (simp only [Act.put, hq1, hq2, hq3, Option.isNone, Bool.not_true, Bool.not_false]; (try with_reducible rfl))); (case hl214 => (simp only [Act.put, hq1, hq2, hq3, Option.isNone, Bool.not_true, Bool.not_false]; (try with_reducible rfl))))); (first | (refine last_skip (i := 5) (a' := ?hA215) (l' := ?hL215) rfl (by kernel_rfl) (by kernel_rfl) (by kernel_rfl) (by kernel_rfl) (fun _ _ _ h => h) (by rfl) (by assumption) ?ha215 ?hl215 ?hh215; (case ha215 => (simp only [Act.put, hq1, hq2, hq3, Option.isNone, Bool.not_true, Bool.not_false]; (try with_reducible rfl))); (case hl215 => (simp only [Act.put, hq1, hq2, hq3, Option.isNone, Bool.not_true, Bool.not_false]; (try with_reducible rfl)))) | (refine last_take (i := 5) (v := ?hV215) (a' := ?hA215) (l' := ?hL215) rfl (by kernel_rfl) (by kernel_rfl) (by kernel_rfl) (by kernel_rfl) (fun _ _ _ h => h) (by rfl) ?hv215 (by assumption) ?ha215 ?hl215 ?hh215; (case hv215 => (intro w hSw; (try dsimp only at hSw); go_simp; (try simp only [run_eql_slice_nil _ 36 _ _ _ _ Try.underlying36, Result.andThen_ok]); (try with_reducible rfl))); (case ha215 => (simp only [Act.put, hq1, hq2, hq3, Option.isNone, Bool.not_true, Bool.not_false]; (try with_reducible rfl))); (case hl215 => (simp only [Act.put, hq1, hq2, hq3, Option.isNone, Bool.not_true, Bool.not_false]; (try with_reducible rfl))))); (first | (refine last_skip (i := 6) (a' := ?hA216) (l' := ?hL216) rfl (by kernel_rfl) (by kernel_rfl) (by kernel_rfl) (by kernel_rfl) (fun _ _ _ h => h) (by rfl) (by assumption) ?ha216 ?hl216 ?hh216; (case ha216 => (simp only [Act.put, hq1, hq2, hq3, Option.isNone, Bool.not_true, Bool.not_false]; (try with_reducible rfl))); (case hl216 => (simp only [Act.put, hq1, hq2, hq3, Option.isNone, Bool.not_true, Bool.not_false]; (try with_reducible rfl)))) | (refine last_take (i := 6) (v := ?hV216) (a' := ?hA216) (l' := ?hL216) rfl (by kernel_rfl) (by kernel_rfl) (by kernel_rfl) (by kernel_rfl) (fun _ _ _ h => h) (by rfl) ?hv216 (by assumption) ?ha216 ?hl216 ?hh216; (case hv216 => (intro w hSw; (try dsimp only at hSw); go_simp; (try simp only [run_eql_slice_nil _ 36 _ _ _ _ Try.underlying36, Result.andThen_ok]); (try with_reducible rfl))); (case ha216 => (simp only [Act.put, hq1, hq2, hq3, Option.isNone, Bool.not_true, Bool.not_false]; (try with_reducible rfl))); (case hl216 => (simp only [Act.put, hq1, hq2, hq3, Option.isNone, Bool.not_true, Bool.not_false]; (try with_reducible rfl))))); (first | (refine last_skip (i := 7) (a' := ?hA217) (l' := ?hL217) rfl (by kernel_rfl) (by kernel_rfl) (by kernel_rfl) (by kernel_rfl) (fun _ _ _ h => h) (by rfl) (by assumption) ?ha217 ?hl217 ?hh217; (case ha217 => (simp only [Act.put, hq1, hq2, hq3, Option.isNone, Bool.not_true, Bool.not_false]; (try with_reducible rfl))); (case hl217 => (simp only [Act.put, hq1, hq2, hq3, Option.isNone, Bool.not_true, Bool.not_false]; (try with_reducible rfl)))) | (refine last_take (i := 7) (v := ?hV217) (a' := ?hA217) (l' := ?hL217) rfl (by kernel_rfl) (by kernel_rfl) (by kernel_rfl) (by kernel_rfl) (fun _ _ _ h => h) (by rfl) ?hv217 (by assumption) ?ha217 ?hl217 ?hh217; (case hv217 => (intro w hSw; (try dsimp only at hSw); go_simp; (try simp only [run_eql_slice_nil _ 36 _ _ _ _ Try.underlying36, Result.andThen_ok]); (try with_reducible rfl))); (case ha217 => (simp only [Act.put, hq1, hq2, hq3, Option.isNone, Bool.not_true, Bool.not_false]; (try with_reducible rfl))); (case hl217 => (simp only [Act.put, hq1, hq2, hq3, Option.isNone, Bool.not_true, Bool.not_false]; (try with_reducible rfl))))); (first | (refine last_skip (i := 8) (a' := ?hA218) (l' := ?hL218) rfl (by kernel_rfl) (by kernel_rfl) (by kernel_rfl) (by kernel_rfl) (fun _ _ _ h => h) (by rfl) (by assumption) ?ha218 ?hl218 ?hh218; (case ha218 => (simp only [Act.put, hq1, hq2, hq3, Option.isNone, Bool.not_true, Bool.not_false]; (try with_reducible rfl))); (case hl218 => (simp only [Act.put, hq1, hq2, hq3, Option.isNone, Bool.not_true, Bool.not_false]; (try with_reducible rfl)))) | (refine last_take (i := 8) (v := ?hV218) (a' := ?hA218) (l' := ?hL218) rfl (by kernel_rfl) (by kernel_rfl) (by kernel_rfl) (by kernel_rfl) (fun _ _ _ h => h) (by rfl) ?hv218 (by assumption) ?ha218 ?hl218 ?hh218; (case hv218 => (intro w hSw; (try dsimp only at hSw); go_simp; (try simp only [run_eql_slice_nil _ 36 _ _ _ _ Try.underlying36, Result.andThen_ok]); (try with_reducible rfl))); (case ha218 => (simp only [Act.put, hq1, hq2, hq3, Option.isNone, Bool.not_true, Bool.not_false]; (try with_reducible rfl))); (case hl218 => (simp only [Act.put, hq1, hq2, hq3, Option.isNone, Bool.not_true, Bool.not_false]; (try with_reducible rfl))))); (first | (refine last_skip (i := 9) (a' := ?hA219) (l' := ?hL219) rfl (by kernel_rfl) (by kernel_rfl) (by kernel_rfl) (by kernel_rfl) (fun _ _ _ h => h) (by rfl) (by assumption) ?ha219 ?hl219 ?hh219; (case ha219 => (simp only [Act.put, hq1, hq2, hq3, Option.isNone, Bool.not_true, Bool.not_false]; (try with_reducible rfl))); (case hl219 => (simp only [Act.put, hq1, hq2, hq3, Option.isNone, Bool.not_true, Bool.not_false]; (try with_reducible rfl)))) | (refine last_take (i := 9) (v := ?hV219) (a' := ?hA219) (l' := ?hL219) rfl (by kernel_rfl) (by kernel_rfl) (by kernel_rfl) (by kernel_rfl) (fun _ _ _ h => h) (by rfl) ?hv219 (by assumption) ?ha219 ?hl219 ?hh219; (case hv219 => (intro w hSw; (try dsimp only at hSw); go_simp; (try simp only [run_eql_slice_nil _ 36 _ _ _ _ Try.underlying36, Result.andThen_ok]); (try with_reducible rfl))); (case ha219 => (simp only [Act.put, hq1, hq2, hq3, Option.isNone, Bool.not_true, Bool.not_false]; (try with_reducible rfl))); (case hl219 => (simp only [Act.put, hq1, hq2, hq3, Option.isNone, Bool.not_true, Bool.not_false]; (try with_reducible rfl))))); (first | (refine last_skip (i := 11) (a' := ?hA220) (l' := ?hL220) rfl (by kernel_rfl) (by kernel_rfl) (by kernel_rfl) (by kernel_rfl) (fun _ _ _ h => h) (by rfl) (by assumption) ?ha220 ?hl220 ?hh220; (case ha220 => (simp only [Act.put, hq1, hq2, hq3, Option.isNone, Bool.not_true, Bool.not_false]; (try with_reducible rfl))); (case hl220 => (simp only [Act.put, hq1, hq2, hq3, Option.isNone, Bool.not_true, Bool.not_false]; (try with_reducible rfl)))) | (refine last_take (i := 11) (v := ?hV220) (a' := ?hA220) (l' := ?hL220) rfl (by kernel_rfl) (by kernel_rfl) (by kernel_rfl) (by kernel_rfl) (fun _ _ _ h => h) (by rfl) ?hv220 (by assumption) ?ha220 ?hl220 ?hh220; (case hv220 => (intro w hSw; (try dsimp only at hSw); go_simp; (try simp only [run_eql_slice_nil _ 36 _ _ _ _ Try.underlying36, Result.andThen_ok]); (try with_reducible rfl))); (case ha220 => (simp only [Act.put, hq1, hq2, hq3, Option.isNone, Bool.not_true, Bool.not_false]; (try with_reducible rfl))); (case hl220 => (simp only [Act.put, hq1, hq2, hq3, Option.isNone, Bool.not_true, Bool.not_false]; (try with_reducible rfl))))); (first | (refine last_skip (i := 12) (a' := ?hA221) (l' := ?hL221) rfl (by kernel_rfl) (by kernel_rfl) (by kernel_rfl) (by kernel_rfl) (fun _ _ _ h => h) (by rfl) (by assumption) ?ha221 ?hl221 ?hh221; (case ha221 => (simp only [Act.put, hq1, hq2, hq3, Option.isNone, Bool.not_true, Bool.not_false]; (try with_reducible rfl))); (case hl221 => (simp only [Act.put, hq1, hq2, hq3, Option.isNone, Bool.not_true, Bool.not_false]; (try with_reducible rfl)))) | (refine last_take (i := 12) (v := ?hV221) (a' := ?hA221) (l' := ?hL221) rfl (by kernel_rfl) (by kernel_rfl) (by kernel_rfl) (by kernel_rfl) (fun _ _ _ h => h) (by rfl) ?hv221 (by assumption) ?ha221 ?hl221 ?hh221; (case hv221 => (intro w hSw; (try dsimp only at hSw); go_simp; (try simp only [run_eql_slice_nil _ 36 _ _ _ _ Try.underlying36, Result.andThen_ok]); (try with_reducible rfl))); (case ha221 => (simp only [Act.put, hq1, hq2, hq3, Option.isNone, Bool.not_true, Bool.not_false]; (try with_reducible rfl))); (case hl221 => (simp only [Act.put, hq1, hq2, hq3, Option.isNone, Bool.not_true, Bool.not_false]; (try with_reducible rfl))))))
      refine last_one (i := 10) rfl (by kernel_rfl) (fun K hK => ?_)
      go_simp
      go_at_call 25
      (with_reducible refine (cloneBytes_any _ _ _ _ r.cargo (HYS.out.go sByte (HF3.out.trans (Below.refl _ _).drew)) HYL.out).mono ?_)
      rintro e w5 ⟨v5, rfl, ho5, hf5⟩
      obtain ⟨A5, c5, rfl, hd5, hs5⟩ := own_bytes ho5
      have HF35 : Hid (Fr W3 w5) := Fr.trans (Below.refl _ _).drew hf5
      have HS5 : Hid (Sl 1 eByte w5 (NW W3.heap.size w5.heap.size) A5 r.cargo.length r.cargo) := hs5
      have HD5 := Lib.hid hd5
      clear ho5 hf5 hs5 hd5
      (refine last_back hK (a' := ?hA246) (l' := ?hL246) ?ha246 ?hl246 (hSC.out _ HF35.out) (fun hHeld => ?hh246); (case ha246 => first | with_reducible rfl | (simp only [Act.put, hq1, hq2, hq3, Option.isNone, Bool.not_true, Bool.not_false]; (try with_reducible rfl))); (case hl246 => (simp only [Act.put, hq1, hq2, hq3, Option.isNone, Bool.not_true, Bool.not_false]; (try with_reducible rfl))); clear hK K)
      ((first | (refine last_skip (i := 13) (a' := ?hA222) (l' := ?hL222) rfl (by kernel_rfl) (by kernel_rfl) (by kernel_rfl) (by kernel_rfl) (fun _ _ _ h => h) (by rfl) (by assumption) ?ha222 ?hl222 ?hh222; (case ha222 => (simp only [Act.put, hq1, hq2, hq3, Option.isNone, Bool.not_true, Bool.not_false]; (try with_reducible rfl))); (case hl222 => (simp only [Act.put, hq1, hq2, hq3, Option.isNone, Bool.not_true, Bool.not_false]; (try with_reducible rfl)))) | (refine last_take (i := 13) (v := ?hV222) (a' := ?hA222) (l' := ?hL222) rfl (by kernel_rfl) (by kernel_rfl) (by kernel_rfl) (by kernel_rfl) (fun _ _ _ h => h) (by rfl) ?hv222 (by assumption) ?ha222 ?hl222 ?hh222; (case hv222 => (intro w hSw; (try dsimp only at hSw); go_simp; (try simp only [run_eql_slice_nil _ 36 _ _ _ _ Try.underlying36, Result.andThen_ok]); (try with_reducible rfl))); (case ha222 => (simp only [Act.put, hq1, hq2, hq3, Option.isNone, Bool.not_true, Bool.not_false]; (try with_reducible rfl))); (case hl222 => (simp only [Act.put, hq1, hq2, hq3, Option.isNone, Bool.not_true, Bool.not_false]; (try with_reducible rfl))))))
      refine last_one (i := 14) rfl (by kernel_rfl) (fun K hK => ?_)
      go_simp
      obtain ⟨W6, hW6⟩ : ∃ W6, W6 = w5.alloc (.cells #[.int .i64 r.h.frm, .int .i64 r.h.seq, .int .i64 r.h.to, .int .i64 r.h.till, .int .i64 r.h.bytes, .int .i64 r.h.block, .bool true, .slice A5 r.cargo.length c5, .slice none 0 0, .int .i64 r.n, .int .i64 0, .int .i64 0, .int .i64 0, .slice none 0 0, .bool false, .bool false] 46) := ⟨_, rfl⟩
      obtain ⟨vb, hvb⟩ : ∃ vb, vb = w5.heap.size := ⟨_, rfl⟩
      have HF56 : Hid (Fr w5 W6) := by rw [hW6]; exact frAlloc _ _
      have HV6 : Hid (W6.heap[vb]? = some (.cells (kpCells (Kp.sent r) A5 r.cargo.length c5 (.slice none 0 0) (.slice none 0 0)).toArray 46 (0, 0))) := by rw [hW6]; exact heap_new hvb
      have HF36 : Hid (Fr W3 W6) := HF35.out.trans HF56.out
      have H6 : Hid (PlM W6 base pb p A c) := H3.out.fr HF36.out
      have HO6 : Hid (Own 16 (eHi base eKq) W6 base 46 (.slice A n c) (p.keep.map fun x => (false, x))) := by
        have := H6.out.own.toQ
        rw [← HN.out] at this
        exact this
      have HX6 : Hid (eHi base eKq W6 (fun b => b < W6.heap.size ∧ (Value.slice A n c).ownBlock ≠ some b) (fun j => (kpCells (Kp.sent r) A5 r.cargo.length c5 (.slice none 0 0) (.slice none 0 0))[j]?) (false, Kp.sent r)) := by
        have w0 : wfI 0 := wfI.mk (by decide)
        refine ⟨eKp_iff.2 ⟨A5, r.cargo.length, c5, none, 0, 0, none, 0, 0, ⟨rfl, rfl, rfl, rfl, rfl, rfl, rfl, rfl, rfl, rfl, rfl, rfl, rfl, rfl, rfl, rfl⟩, ⟨hwh, hwn, w0, w0, w0⟩, ⟨⟨by rw [HYN.out]; exact HYL.out, HD5.out⟩, ?_⟩, ⟨⟨by unfold lim; omega, by omega, by unfold maxLen; omega⟩, Sl.nil⟩, ⟨by unfold lim; omega, by omega, by unfold maxLen; omega⟩, Sl.nil⟩, fun e => by cases e⟩
        refine (HS5.out.keep sByte fun b hb => HF56.out.cell hb.2).more sByte fun b hb => ⟨⟨Nat.lt_of_lt_of_le hb.2 HF56.out.size, fun e => ?_⟩, ?_⟩
        · have h1 := H3.out.own
          rw [← HN.out] at h1
          have := (h1.ge e).2
          have := hb.1
          omega
        · have := hb.1
          have := HF3.out.size
          omega
      rw [← hW6, ← hvb]
      have HVB := Lib.hid hvb
      clear hW6 hvb
      (refine last_back hK (a' := ?hA247) (l' := ?hL247) ?ha247 ?hl247 (hSC.out _ HF36.out) (fun hHeld => ?hh247); (case ha247 => first | with_reducible rfl | (simp only [Act.put, hq1, hq2, hq3, Option.isNone, Bool.not_true, Bool.not_false]; (try with_reducible rfl))); (case hl247 => (simp only [Act.put, hq1, hq2, hq3, Option.isNone, Bool.not_true, Bool.not_false]; (try with_reducible rfl))); clear hK K)
      refine last_one (i := 15) rfl (by kernel_rfl) (fun K hK => ?_)
      go_simp
      go_at_call 41
      with_reducible refine (insertKepts_own (N := base) W6 base pa vb (.slice A n c) (p.keep.map fun x => (false, x)) (false, Kp.sent r) (kpCells (Kp.sent r) A5 r.cargo.length c5 (.slice none 0 0) (.slice none 0 0)) 46 HO6.out (by rw [List.length_map, ← HN.out]; omega) HV6.out (fun e => by have := (HO6.out.ge e).2; have h1 := H3.out.own; rw [← HN.out] at h1; have := (h1.ge e).2; have := HF35.out.size; have := HVB.out; omega) rfl (by simp [kpCells, Value.oneCell']) HX6.out (by rw [List.length_map, ← HN.out]; unfold lim; omega) (by have := HF3.out.size; have := HF36.out.size; omega)).mono ?_
      rintro e w7 ⟨v7, rfl, ho7, hg7⟩
      obtain ⟨A7, n7, c7, rfl⟩ := own_isSl ho7
      have hno : ∀ b, (Value.slice A n c).ownBlock = some b → base ≤ b ∧ b < w.heap.size := fun b hb => by
        have h1 := H.out.own
        rw [← HN.out] at h1
        exact h1.ge hb
      have hk7 : Chg (fun b => (Value.slice A n c).ownBlock = some b) W6 w7 := ⟨hg7.os, hg7.tape, hg7.output, hg7.size, fun b hb hs => hg7.block b hb fun e => hs e.symm⟩
      have hno1 : ¬ (Value.slice A n c).ownBlock = some pb := fun e => by have := hno _ e; omega
      have hno2 : ¬ (Value.slice A n c).ownBlock = some q := fun e => by have := hno _ e; have := HQW.out; omega
      have hS7 : w7.cell? ⟨pb, 1, none⟩ = some (.slice A n c) ∧ w7.cell? ⟨q, 2, none⟩ = some (.int .i64 r.n) ∧ w7.cell? ⟨q, 4, none⟩ = some (.int .i64 r.h.frm) ∧ w7.cell? ⟨q, 5, none⟩ = some (.int .i64 r.h.seq) ∧ w7.cell? ⟨q, 6, none⟩ = some (.int .i64 r.h.to) ∧ w7.cell? ⟨q, 7, none⟩ = some (.int .i64 r.h.till) ∧ w7.cell? ⟨q, 8, none⟩ = some (.int .i64 r.h.bytes) ∧ w7.cell? ⟨q, 9, none⟩ = some (.int .i64 r.h.block) ∧ w7.cell? ⟨q, 12, none⟩ = some (.slice B2 nb2 cb2) := by
        obtain ⟨k1, k2, k3, k4, k5, k6, k7, k8, k9⟩ := hSC.out _ HF36.out
        exact ⟨(hk7.cell (World.block_lt_of_cell? W6 _ k1) hno1).trans k1, (hk7.cell (World.block_lt_of_cell? W6 _ k2) hno2).trans k2, (hk7.cell (World.block_lt_of_cell? W6 _ k3) hno2).trans k3, (hk7.cell (World.block_lt_of_cell? W6 _ k4) hno2).trans k4, (hk7.cell (World.block_lt_of_cell? W6 _ k5) hno2).trans k5, (hk7.cell (World.block_lt_of_cell? W6 _ k6) hno2).trans k6, (hk7.cell (World.block_lt_of_cell? W6 _ k7) hno2).trans k7, (hk7.cell (World.block_lt_of_cell? W6 _ k8) hno2).trans k8, (hk7.cell (World.block_lt_of_cell? W6 _ k9) hno2).trans k9⟩
      have hb7 := hk7.blk H6.out.blk hno1
      rw [← HN.out] at hb7
      have HO7 := Lib.hid ho7
      have HK7 := Lib.hid hk7
      (refine last_back hK (a' := ?hA248) (l' := ?hL248) ?ha248 ?hl248 (hS7) (fun hHeld => ?hh248); (case ha248 => first | with_reducible rfl | (simp only [Act.put, hq1, hq2, hq3, Option.isNone, Bool.not_true, Bool.not_false]; (try with_reducible rfl))); (case hl248 => (simp only [Act.put, hq1, hq2, hq3, Option.isNone, Bool.not_true, Bool.not_false]; (try with_reducible rfl))); clear hK K)
      refine last_one (i := 16) rfl (by kernel_rfl) (fun K hK => ?_)
      go_simp
      (refine last_back hK (a' := ?hA249) (l' := ?hL249) ?ha249 ?hl249 (hS7) (fun hHeld => ?hh249); (case ha249 => first | with_reducible rfl | (simp only [Act.put, hq1, hq2, hq3, Option.isNone, Bool.not_true, Bool.not_false]; (try with_reducible rfl))); (case hl249 => (simp only [Act.put, hq1, hq2, hq3, Option.isNone, Bool.not_true, Bool.not_false]; (try with_reducible rfl))); clear hK K)
      ((first | (refine last_skip (i := 17) (a' := ?hA223) (l' := ?hL223) rfl (by kernel_rfl) (by kernel_rfl) (by kernel_rfl) (by kernel_rfl) (fun _ _ _ h => h) (by rfl) (by assumption) ?ha223 ?hl223 ?hh223; (case ha223 => (simp only [Act.put, hq1, hq2, hq3, Option.isNone, Bool.not_true, Bool.not_false]; (try with_reducible rfl))); (case hl223 => (simp only [Act.put, hq1, hq2, hq3, Option.isNone, Bool.not_true, Bool.not_false]; (try with_reducible rfl)))) | (refine last_take (i := 17) (v := ?hV223) (a' := ?hA223) (l' := ?hL223) rfl (by kernel_rfl) (by kernel_rfl) (by kernel_rfl) (by kernel_rfl) (fun _ _ _ h => h) (by rfl) ?hv223 (by assumption) ?ha223 ?hl223 ?hh223; (case hv223 => (intro w hSw; (try dsimp only at hSw); go_simp; (try simp only [run_eql_slice_nil _ 36 _ _ _ _ Try.underlying36, Result.andThen_ok]); (try with_reducible rfl))); (case ha223 => (simp only [Act.put, hq1, hq2, hq3, Option.isNone, Bool.not_true, Bool.not_false]; (try with_reducible rfl))); (case hl223 => (simp only [Act.put, hq1, hq2, hq3, Option.isNone, Bool.not_true, Bool.not_false]; (try with_reducible rfl))))))
      have y1 := blk_free (i := 1) hb7
      have hpl7 := (Array.getElem?_eq_some_iff.1 hb7).1
      have mp1 := hS7.1
      refine last_one (i := 18) rfl (by kernel_rfl) (fun K hK => ?_)
      go_simp
      refine last_end hK (by kernel_rfl) ?_
      clear hK K
      obtain rfl : n7 = (insKp p.keep (Kp.sent r)).length := by
        rw [HO7.out.len _ _ _ rfl]
        unfold insKp
        rw [show placeAt p.keep (Kp.sent r).h = pa from Hpa.out.symm]
        simp
      obtain ⟨W8, hW8⟩ : ∃ W8, W8 = w7.setCell ⟨pb, 1, none⟩ (.slice A7 (insKp p.keep (Kp.sent r)).length c7) := ⟨_, rfl⟩
      have hb8 : W8.heap[pb]? = some (.cells #[.int .i64 p.me, .slice A7 (insKp p.keep (Kp.sent r)).length c7, .int .i64 p.time, .int .i64 p.seq] 25 (0, 0)) := by rw [hW8]; have := heap_setCell_same w7 pb 1 _ _ (.slice A7 (insKp p.keep (Kp.sent r)).length c7) hb7; simpa using this
      have hk8 : Chg (fun b => b = pb) w7 W8 := by rw [hW8]; exact Chg.set (S := fun b => b = pb) (p := ⟨pb, 1, none⟩) (Chg.refl _ _) rfl _
      rw [← hW8]
      (obtain ⟨bp0, bp1, bp2, bp3⟩ := box4_ hb8)
      have y3 := blk_free (i := 3) hb8
      have hpl8 := (Array.getElem?_eq_some_iff.1 hb8).1
      have hws : IntKind.i64.wrap (p.seq + 1) = p.seq + 1 := by rw [IntKind.wrap_i64]; omega
      have hk9 : Chg (fun b => b = pb) w7 (W8.setCell ⟨pb, 3, none⟩ (.int .i64 (p.seq + 1))) := Chg.set (S := fun b => b = pb) (p := ⟨pb, 3, none⟩) hk8 rfl _
      have HP9 : Hid (PlM (W8.setCell ⟨pb, 3, none⟩ (.int .i64 (p.seq + 1))) base pb { p with keep := insKp p.keep (Kp.sent r), seq := p.seq + 1 } A7 c7) := by
        refine ⟨?_, hpb, ?_⟩
        · have := heap_setCell_same W8 pb 3 _ _ (.int .i64 (p.seq + 1)) hb8
          simpa using this
        · have h1 := HO7.out.ofQ
          have e1 : (List.take pa (p.keep.map fun x => (false, x)) ++ (false, Kp.sent r) :: List.drop pa (p.keep.map fun x => (false, x))).map (·.2) = insKp p.keep (Kp.sent r) := by
            unfold insKp
            rw [show placeAt p.keep (Kp.sent r).h = pa from Hpa.out.symm]
            simp [List.map_take, List.map_drop, List.map_map, Function.comp_def]
          rw [e1] at h1
          exact h1.hiChg sKp hk9 fun b hb => by rw [hb]; exact hpb
      have HC9 : Hid (Chg (PlS base pb) w (W8.setCell ⟨pb, 3, none⟩ (.int .i64 (p.seq + 1)))) := by
        have q1 : Chg (PlS base pb) w W6 := (HF3.out.trans HF36.out).chg
        have q2 : Chg (PlS base pb) W6 w7 := HK7.out.more fun b hb => .inr (hno b hb).1
        exact (q1.trans q2).trans (hk9.more fun b hb => .inl hb)
      clear hb7 hb8 hk8 hk9 hk7 hW8 hS7 y1 hpl7 mp1 hno hno1 hno2 hSC
      go_wp2_with fail
      go_ret
      rw [E4.out]
      exact ⟨rfl, HC9.out, _, _, HP9.out⟩
end Go.Proofs.Ytojoodmnmhcojaa
namespace Go.Proofs.Ytojoodmnmhcojaa
open Go.RowKit

set_option maxHeartbeats 1000000 in
theorem eqPlan (d : Nat) (a b c e : Int) (w : World) : (Op.equalIn (d + 2) 32 (.agg #[.int .i64 a, .int .i64 b]) (.agg #[.int .i64 c, .int .i64 e])).run Try.prog w = .ok (decide (a = c ∧ b = e)) w := by
  have hS : Try.prog.underlying 32 = some (.struct (Try.prog.fieldsOf 32)) := by kernel_rfl
  rw [run_equalIn_agg w (d + 1) 32 _ _ hS (by kernel_rfl)]
  simp only [Program.fieldsOf, Try.underlying32]
  go_simp
  by_cases h1 : a = c <;> by_cases h2 : b = e <;> simp [h1, h2]
set_option maxHeartbeats 1000000 in
theorem eqHd (x y : Hd) (w : World) : (Op.equalIn 10000 34 (.agg #[.int .i64 x.frm, .int .i64 x.seq, .int .i64 x.to, .int .i64 x.till, .int .i64 x.bytes, .int .i64 x.block]) (.agg #[.int .i64 y.frm, .int .i64 y.seq, .int .i64 y.to, .int .i64 y.till, .int .i64 y.bytes, .int .i64 y.block])).run Try.prog w = .ok (decide (x = y)) w := by
  obtain ⟨a0, a1, a2, a3, a4, a5⟩ := x
  obtain ⟨b0, b1, b2, b3, b4, b5⟩ := y
  have hS : Try.prog.underlying 34 = some (.struct (Try.prog.fieldsOf 34)) := by kernel_rfl
  have hp := fun W => eqPlan 9997 a4 a5 b4 b5 W
  rw [show (10000 : Nat) = 9999 + 1 from rfl, run_equalIn_agg w 9999 34 _ _ hS (by kernel_rfl)]
  simp only [Program.fieldsOf, Try.underlying34]
  go_simp
  by_cases h1 : a0 = b0 <;> by_cases h2 : a1 = b1 <;> by_cases h3 : a2 = b2 <;> by_cases h4 : a3 = b3 <;> by_cases h5 : a4 = b4 <;> by_cases h6 : a5 = b5 <;> simp [h1, h2, h3, h4, h5, h6]
end Go.Proofs.Ytojoodmnmhcojaa
namespace Go.Proofs.Ytojoodmnmhcojaa

theorem ahead_trans {a b c : Hd} (h : aheadB a b = true) (k : aheadB b c = true) : aheadB a c = true := by
  simp only [aheadB, Bool.or_eq_true, Bool.and_eq_true, decide_eq_true_eq] at h k ⊢; omega
theorem ahead_ne {a b : Hd} (h : aheadB a b = true) : ¬ (a.frm = b.frm ∧ a.seq = b.seq) := by
  simp only [aheadB, Bool.or_eq_true, Bool.and_eq_true, decide_eq_true_eq] at h; omega
theorem ahead_asymm {a b : Hd} (h : aheadB a b = true) : aheadB b a = false := by
  simp only [aheadB, Bool.or_eq_true, Bool.and_eq_true, decide_eq_true_eq, Bool.or_eq_false_iff, Bool.and_eq_false_iff, decide_eq_false_iff_not] at h ⊢; omega
theorem ahead_total {a b : Hd} (h : ¬ (a.frm = b.frm ∧ a.seq = b.seq)) (k : aheadB a b = false) : aheadB b a = true := by
  simp only [aheadB, Bool.or_eq_true, Bool.and_eq_true, decide_eq_true_eq, Bool.or_eq_false_iff, Bool.and_eq_false_iff, decide_eq_false_iff_not] at k ⊢; omega
/-- Rising. -/
def Up (l : List Kp) : Prop := l.Pairwise fun a b => aheadB a.h b.h = true
theorem keepsErr_iff {me time seq : Int} : ∀ {l : List Kp} {prev : Option Hd}, keepsErr me time seq prev l = 0 ↔ (∀ k ∈ l, keptCheck k me time = 0 ∧ (k.own = true → k.h.seq < seq)) ∧ (∀ q, prev = some q → ∀ k ∈ l, aheadB q k.h = true) ∧ Up l
  | [], prev => by simp [keepsErr, Up]
  | k :: l, prev => by
    rw [keepsErr]
    constructor
    · intro h
      split at h
      · rename_i h1; exact absurd h h1
      · split at h
        · cases h
        · split at h
          · cases h
          · rename_i h1 h2 h3
            obtain ⟨h4, h5, h6⟩ := keepsErr_iff.1 h
            have hq : ∀ q, prev = some q → aheadB q k.h = true := by
              rintro q rfl
              simpa using h3
            refine ⟨fun x hx => ?_, fun q e x hx => ?_, ?_⟩
            · rcases List.mem_cons.1 hx with rfl | hx
              · exact ⟨by simpa using h1, fun ho => by simp only [ho, true_and] at h2; omega⟩
              · exact h4 x hx
            · rcases List.mem_cons.1 hx with rfl | hx
              · exact hq q e
              · exact ahead_trans (hq q e) (h5 _ rfl x hx)
            · exact List.pairwise_cons.2 ⟨fun x hx => h5 _ rfl x hx, h6⟩
    · rintro ⟨h1, h2, h3⟩
      obtain ⟨h4, h5⟩ := List.pairwise_cons.1 h3
      obtain ⟨h6, h7⟩ := h1 k List.mem_cons_self
      rw [if_neg (by simp [h6]), if_neg (by rintro ⟨ho, hs⟩; have := h7 ho; omega), if_neg]
      · exact keepsErr_iff.2 ⟨fun x hx => h1 x (List.mem_cons_of_mem _ hx), fun q e x hx => by injection e with e; subst e; exact h4 x hx, h5⟩
      · cases prev with
        | none => simp
        | some q => simp [h2 q rfl k List.mem_cons_self]
/-- A right place. -/
structure PcOk (p : Pc) : Prop where
  me : 0 ≤ p.me ∧ p.me < 4
  time : 0 ≤ p.time ∧ p.time ≤ 1000000
  seq : 0 ≤ p.seq ∧ p.seq ≤ 50
  len : p.keep.length ≤ 12
  kept : ∀ k ∈ p.keep, keptCheck k p.me p.time = 0
  own : ∀ k ∈ p.keep, k.own = true → k.h.seq < p.seq
  up : Up p.keep
theorem placeCheck_iff {p : Pc} : placeCheck p = 0 ↔ PcOk p := by
  unfold placeCheck
  constructor
  · intro h
    split at h
    · cases h
    · split at h
      · cases h
      · rename_i h1 h2
        obtain ⟨h3, _, h4⟩ := keepsErr_iff.1 h
        exact ⟨by omega, by omega, by omega, by omega, fun k hk => (h3 k hk).1, fun k hk => (h3 k hk).2, h4⟩
  · rintro ⟨h1, h2, h3, h4, h5, h6, h7⟩
    rw [if_neg (by omega), if_neg (by omega)]
    exact keepsErr_iff.2 ⟨fun k hk => ⟨h5 k hk, h6 k hk⟩, fun q e => by (cases e), h7⟩

theorem symsErr_iff {h : Hd} : ∀ {l seen : List Sm}, symsErr h seen l = 0 ↔ (∀ s ∈ l, codeCheck h.bytes h.block s.id s.data.length = 0) ∧ (∀ s ∈ l, ∀ o ∈ seen, o.id ≠ s.id) ∧ l.Pairwise fun a b => a.id ≠ b.id
  | [], seen => by simp [symsErr]
  | s :: l, seen => by
    rw [symsErr]
    constructor
    · intro e
      split at e
      · rename_i h1; exact absurd e h1
      · split at e
        · cases e
        · rename_i h1 h2
          obtain ⟨h3, h4, h5⟩ := symsErr_iff.1 e
          simp only [List.any_eq_true, decide_eq_true_eq, not_exists, not_and] at h2
          refine ⟨fun x hx => ?_, fun x hx o ho => ?_, List.pairwise_cons.2 ⟨fun x hx => h4 x hx s (by simp), h5⟩⟩
          · rcases List.mem_cons.1 hx with rfl | hx
            · simpa using h1
            · exact h3 x hx
          · rcases List.mem_cons.1 hx with rfl | hx
            · exact h2 o ho
            · exact h4 x hx o (List.mem_append_left _ ho)
    · rintro ⟨h1, h2, h3⟩
      obtain ⟨h4, h5⟩ := List.pairwise_cons.1 h3
      rw [if_neg (by simp [h1 s List.mem_cons_self]), if_neg]
      · refine symsErr_iff.2 ⟨fun x hx => h1 x (List.mem_cons_of_mem _ hx), fun x hx o ho => ?_, h5⟩
        rcases List.mem_append.1 ho with ho | ho
        · exact h2 x (List.mem_cons_of_mem _ hx) o ho
        · obtain rfl := List.mem_singleton.1 ho
          exact h4 x hx
      · simp only [List.any_eq_true, decide_eq_true_eq, not_exists, not_and]
        exact fun o ho => h2 s List.mem_cons_self o ho
theorem tookErr_iff : ∀ {l seen : List Tk}, tookErr seen l = 0 ↔ (∀ t ∈ l, 0 ≤ t.place ∧ t.place < 4 ∧ 1 ≤ t.try_ ∧ t.try_ ≤ 9999) ∧ (∀ t ∈ l, ∀ o ∈ seen, o ≠ t) ∧ l.Pairwise fun a b => a ≠ b
  | [], seen => by simp [tookErr]
  | t :: l, seen => by
    rw [tookErr]
    constructor
    · intro e
      split at e
      · cases e
      · split at e
        · cases e
        · rename_i h1 h2
          obtain ⟨h3, h4, h5⟩ := tookErr_iff.1 e
          simp only [List.any_eq_true, decide_eq_true_eq, not_exists, not_and] at h2
          refine ⟨fun x hx => ?_, fun x hx o ho => ?_, List.pairwise_cons.2 ⟨fun x hx => h4 x hx t (by simp), h5⟩⟩
          · rcases List.mem_cons.1 hx with rfl | hx
            · omega
            · exact h3 x hx
          · rcases List.mem_cons.1 hx with rfl | hx
            · exact h2 o ho
            · exact h4 x hx o (List.mem_append_left _ ho)
    · rintro ⟨h1, h2, h3⟩
      obtain ⟨h4, h5⟩ := List.pairwise_cons.1 h3
      rw [if_neg (by have := h1 t List.mem_cons_self; omega), if_neg]
      · refine tookErr_iff.2 ⟨fun x hx => h1 x (List.mem_cons_of_mem _ hx), fun x hx o ho => ?_, h5⟩
        rcases List.mem_append.1 ho with ho | ho
        · exact h2 x (List.mem_cons_of_mem _ hx) o ho
        · obtain rfl := List.mem_singleton.1 ho
          exact h4 x hx
      · simp only [List.any_eq_true, decide_eq_true_eq, not_exists, not_and]
        exact fun o ho => h2 t List.mem_cons_self o ho
/-- A right bundle at a place. -/
structure KpOk (k : Kp) (me time : Int) : Prop where
  head : hdCheck k.h = 0
  till : time < k.h.till
  own : k.own = decide (k.h.frm = me)
  cargo : k.own = decide (0 < k.cargo.length)
  size : k.own = true → (k.cargo.length : Int) = k.h.bytes
  nosym : k.own = true → k.syms = []
  many : k.syms.length ≤ 60 ∧ k.took.length ≤ 40
  syms : ∀ s ∈ k.syms, codeCheck k.h.bytes k.h.block s.id s.data.length = 0
  apart : k.syms.Pairwise fun a b => a.id ≠ b.id
  shares : 0 ≤ k.shares ∧ k.shares ≤ 64
  giving : 0 ≤ k.giving ∧ k.giving ≤ 64
  towards : 0 ≤ k.towards ∧ k.towards < 4
  try_ : 0 ≤ k.try_ ∧ k.try_ ≤ 9999
  none_ : k.giving = 0 → k.towards = 0
  some_ : 0 < k.giving → k.towards ≠ me ∧ k.try_ ≠ 0
  took : ∀ t ∈ k.took, 0 ≤ t.place ∧ t.place < 4 ∧ 1 ≤ t.try_ ∧ t.try_ ≤ 9999
  tooks : k.took.Pairwise fun a b => a ≠ b
  deliv : k.delivered = true → k.h.to = me ∧ k.purged = false
  ended : (k.delivered = true ∨ k.purged = true) → k.syms = [] ∧ k.shares = 0 ∧ k.giving = 0
theorem keptCheck_iff {k : Kp} {me time : Int} : keptCheck k me time = 0 ↔ KpOk k me time := by
  unfold keptCheck sharesCheck
  constructor
  · intro e
    split at e
    · rename_i h; exact absurd e h
    split at e
    · cases e
    split at e
    · cases e
    split at e
    · cases e
    split at e
    · rename_i h; exact absurd e h
    split at e
    · cases e
    split at e
    · cases e
    split at e
    · rename_i h; exact absurd e h
    split at e
    · cases e
    rename_i h1 h2 h3 h4 h5 h6 h7 h8 h9
    simp only [ne_eq, Decidable.not_not, not_or, not_and] at h1 h3 h5 h8 h9
    obtain ⟨s1, s2, s3⟩ := symsErr_iff.1 h5
    obtain ⟨t1, t2, t3⟩ := tookErr_iff.1 h8
    obtain ⟨o1, o2, o3, o4⟩ := h3
    refine ⟨h1, by omega, o1, o2, o3, fun ho => List.length_eq_zero_iff.1 (by have := o4 ho; omega), by omega, s1, s3, by omega, by omega, by omega, by omega, by omega, by omega, t1, t3, fun hd => ⟨(h9.1 hd).1, by simpa using (h9.1 hd).2⟩, fun hd => ?_⟩
    have := h9.2 hd
    exact ⟨List.length_eq_zero_iff.1 (by omega), by omega, by omega⟩
  · rintro ⟨h1, h2, h3, h4, h5, h6, h7, h8, h9, h10, h11, h12, h13, h14, h15, h16, h17, h18, h19⟩
    have e1 : symsErr k.h [] k.syms = 0 := symsErr_iff.2 ⟨h8, fun _ _ _ h => by simp at h, h9⟩
    have e2 : tookErr [] k.took = 0 := tookErr_iff.2 ⟨h16, fun _ _ _ h => by simp at h, h17⟩
    have hz : k.own = true → k.syms.length = 0 := fun ho => by rw [h6 ho]; rfl
    rw [if_neg (by simp [h1]), if_neg (by omega), if_neg, if_neg (by omega), if_neg (by simp [e1]), if_neg (by omega), if_neg (by omega), if_neg (by simp [e2]), if_neg]
    · rintro (⟨hd, hx⟩ | ⟨hd, hx⟩)
      · obtain ⟨a, b⟩ := h18 hd
        rcases hx with hx | hx
        · exact hx a
        · rw [b] at hx; cases hx
      · obtain ⟨a, b, c⟩ := h19 hd
        rw [a] at hx
        simp at hx
        omega
    · rintro (h | h | ⟨ho, h⟩ | ⟨ho, h⟩)
      · exact h h3
      · exact h h4
      · exact h (h5 ho)
      · have := hz ho; omega

theorem Up.inj {l : List Kp} (h : Up l) {i j : Nat} {a b : Kp} (hi : l[i]? = some a) (hj : l[j]? = some b) (e : a.h.frm = b.h.frm ∧ a.h.seq = b.h.seq) : i = j := by
  have h' := List.pairwise_iff_getElem.1 h
  obtain ⟨li, ei⟩ := List.getElem?_eq_some_iff.1 hi
  obtain ⟨lj, ej⟩ := List.getElem?_eq_some_iff.1 hj
  rcases Nat.lt_trichotomy i j with hlt | rfl | hlt
  · have := h' i j li lj hlt
    rw [ei, ej] at this
    exact absurd e (ahead_ne this)
  · rfl
  · have := h' j i lj li hlt
    rw [ei, ej] at this
    exact absurd ⟨e.1.symm, e.2.symm⟩ (ahead_ne this)
theorem findAt_some {frm seq : Int} {l : List Kp} {i : Nat} (h : findAt frm seq l = some i) : ∃ k, l[i]? = some k ∧ k.h.frm = frm ∧ k.h.seq = seq := by
  unfold findAt at h
  obtain ⟨hi, hp, _⟩ := List.findIdx?_eq_some_iff_getElem.1 h
  simp only [Bool.and_eq_true, decide_eq_true_eq] at hp
  exact ⟨l[i], List.getElem?_eq_getElem hi, hp⟩
theorem findAt_none {frm seq : Int} {l : List Kp} (h : findAt frm seq l = none) : ∀ k ∈ l, ¬ (k.h.frm = frm ∧ k.h.seq = seq) := by
  unfold findAt at h
  intro k hk e
  have := List.findIdx?_eq_none_iff.1 h k hk
  simp [e.1, e.2] at this
theorem findAt_mem {frm seq : Int} {l : List Kp} (h : Up l) {i : Nat} {k : Kp} (hi : l[i]? = some k) (e : k.h.frm = frm ∧ k.h.seq = seq) : findAt frm seq l = some i := by
  cases hf : findAt frm seq l with
  | none => exact absurd e (findAt_none hf k (List.mem_of_getElem? hi))
  | some j =>
    obtain ⟨k', hk', e'⟩ := findAt_some hf
    rw [h.inj hi hk' ⟨e.1.trans e'.1.symm, e.2.trans e'.2.symm⟩]

theorem placeAt_le (l : List Kp) (h : Hd) : placeAt l h ≤ l.length := by unfold placeAt; exact (List.takeWhile_sublist _).length_le
theorem take_placeAt (l : List Kp) (h : Hd) : l.take (placeAt l h) = l.takeWhile fun k => aheadB k.h h := by
  unfold placeAt
  exact (List.prefix_iff_eq_take.1 (List.takeWhile_prefix _)).symm
theorem drop_placeAt (l : List Kp) (h : Hd) : l.drop (placeAt l h) = l.dropWhile fun k => aheadB k.h h := by
  unfold placeAt
  induction l with
  | nil => rfl
  | cons k l ih =>
    rw [List.takeWhile_cons, List.dropWhile_cons]
    split
    · simpa using ih
    · rfl
theorem mem_insKp {l : List Kp} {k x : Kp} : x ∈ insKp l k ↔ x = k ∨ x ∈ l := by
  unfold insKp
  rw [List.mem_append, List.mem_cons]
  conv => rhs; rw [← List.take_append_drop (placeAt l k.h) l, List.mem_append]
  constructor
  · rintro (h | h | h)
    · exact .inr (.inl h)
    · exact .inl h
    · exact .inr (.inr h)
  · rintro (h | h | h)
    · exact .inr (.inl h)
    · exact .inl h
    · exact .inr (.inr h)
theorem length_insKp (l : List Kp) (k : Kp) : (insKp l k).length = l.length + 1 := by
  have := placeAt_le l k.h
  unfold insKp
  rw [List.length_append, List.length_cons, List.length_take, List.length_drop]; omega
theorem insKp_at (l : List Kp) (k : Kp) : (insKp l k)[placeAt l k.h]? = some k := by
  have := placeAt_le l k.h
  unfold insKp
  rw [List.getElem?_append_right (by rw [List.length_take]; omega), List.length_take, Nat.min_eq_left this, Nat.sub_self]; rfl
theorem insKp_up {l : List Kp} (h : Up l) {k : Kp} (hk : ∀ x ∈ l, ¬ (x.h.frm = k.h.frm ∧ x.h.seq = k.h.seq)) : Up (insKp l k) := by
  unfold insKp
  rw [take_placeAt, drop_placeAt]
  have h0 := h
  unfold Up at h ⊢
  rw [← List.takeWhile_append_dropWhile (p := fun x => aheadB x.h k.h) (l := l)] at h
  obtain ⟨h1, h2, h3⟩ := List.pairwise_append.1 h
  have ht : ∀ x ∈ l.takeWhile (fun x => aheadB x.h k.h), aheadB x.h k.h = true := fun x hx => List.all_eq_true.1 (List.all_takeWhile (p := fun x : Kp => aheadB x.h k.h) (l := l)) x hx
  have hd : ∀ x ∈ l.dropWhile (fun x => aheadB x.h k.h), aheadB k.h x.h = true := by
    intro x hx
    cases hl : l.dropWhile (fun x => aheadB x.h k.h) with
    | nil => rw [hl] at hx; simp at hx
    | cons y ys =>
      have hy : aheadB y.h k.h = false := by
        have := List.head?_dropWhile_not (fun x : Kp => aheadB x.h k.h) l
        rw [hl] at this
        simpa using this
      have hym : y ∈ l := (List.dropWhile_sublist _).subset (by rw [hl]; exact List.mem_cons_self)
      have hy2 := ahead_total (hk y hym) hy
      rw [hl] at hx h2
      rcases List.mem_cons.1 hx with rfl | hx
      · exact hy2
      · exact ahead_trans hy2 ((List.pairwise_cons.1 h2).1 x hx)
  refine List.pairwise_append.2 ⟨h1, List.pairwise_cons.2 ⟨hd, h2⟩, fun a ha b hb => ?_⟩
  rcases List.mem_cons.1 hb with rfl | hb
  · exact ht a ha
  · exact h3 a ha b hb
theorem set_up {l : List Kp} (h : Up l) {i : Nat} {k k' : Kp} (hi : l[i]? = some k) (e : k'.h = k.h) : Up (l.set i k') := by
  obtain ⟨li, ei⟩ := List.getElem?_eq_some_iff.1 hi
  refine List.pairwise_iff_getElem.2 fun a b ha hb hab => ?_
  rw [List.length_set] at ha hb
  have h' := List.pairwise_iff_getElem.1 h a b ha hb hab
  rw [List.getElem_set, List.getElem_set]
  split
  · rename_i e1
    subst e1
    rw [if_neg (by omega), e, ← ei]; exact h'
  · split
    · rename_i e1
      subst e1
      rw [e, ← ei]; exact h'
    · exact h'
/-- What a record that is right says. -/
structure RcOk (r : Rc) : Prop where
  kind : 1 ≤ r.kind ∧ r.kind ≤ 8
  place : 0 ≤ r.place ∧ r.place < 4
  try_ : 0 ≤ r.try_ ∧ r.try_ ≤ 9999
  n : 0 ≤ r.n ∧ r.n ≤ 1000000
  head : r.kind ≠ 8 → hdCheck r.h = 0
  tick : r.kind = 8 → r.h = Hd.zero
  sym : r.kind = 2 → codeCheck r.h.bytes r.h.block r.s.id r.s.data.length = 0
  cargo : (r.kind = 1 ∨ r.kind = 3) → (r.cargo.length : Int) = r.h.bytes
theorem recCheck_ok {r : Rc} (h : recCheck r = 0) : RcOk r := by
  unfold recCheck at h
  split at h
  · cases h
  split at h
  · cases h
  split at h
  · cases h
  split at h
  · rename_i h1; exact absurd h h1.2
  rename_i h1 h2 h3 h4
  refine ⟨by omega, by omega, by omega, by omega, fun e => ?_, fun e => ?_, fun e => ?_, fun e => ?_⟩
  · have : usH r.kind = true := by simp [usH, e]
    simp only [this, true_and, ne_eq, Decidable.not_not] at h4; exact h4
  · have : usH r.kind = false := by simp [usH, e]
    simp only [this, true_and, not_or, ne_eq, Decidable.not_not] at h2; exact h2.2.2.2.1
  · have : usS r.kind = true := by simp [usS, e]
    rw [if_pos this] at h; exact h
  · have h5 : usS r.kind = false := by rcases e with e | e <;> simp [usS, e]
    have h6 : usC r.kind = true := by rcases e with e | e <;> simp [usC, e]
    rw [if_neg (by simp [h5])] at h
    split at h
    · cases h
    · rename_i h7
      simp only [h6, true_and, ne_eq, Decidable.not_not] at h7; exact h7
theorem fresh_ok {h : Hd} {me time : Int} (hh : hdCheck h = 0) (ht : time < h.till) (hf : h.frm ≠ me) : KpOk (Kp.fresh h) me time := by
  refine ⟨hh, ht, by simp [Kp.fresh, hf], by simp [Kp.fresh], ?_, ?_, ?_, ?_, ?_, ?_, ?_, ?_, ?_, ?_, ?_, ?_, ?_, ?_, ?_⟩ <;> simp [Kp.fresh]
/-- What a record makes of a bundle is a bundle, of the same head. -/
theorem elemF_ok {me time : Int} {k k' : Kp} {r : Rc} (hk : KpOk k me time) (hr : RcOk r) (hh : k.h = r.h) (e : elemF me k r = (k', 0)) : KpOk k' me time ∧ k'.h = k.h := by
  unfold elemF at e
  split at e
  · rename_i h2
    unfold keepsF at e
    repeat' split at e
    all_goals try (simp only [Prod.mk.injEq] at e; exact absurd e.2 (by decide))
    rename_i a1 a2 a3 a4
    simp only [Prod.mk.injEq, and_true] at e
    subst e
    simp only [List.any_eq_true, decide_eq_true_eq, not_exists, not_and] at a3
    refine ⟨⟨hk.head, hk.till, hk.own, hk.cargo, hk.size, fun ho => absurd ho a1, ?_, fun s hs => ?_, ?_, hk.shares, hk.giving, hk.towards, hk.try_, hk.none_, hk.some_, hk.took, hk.tooks, hk.deliv, fun hd => absurd hd a2⟩, rfl⟩
    · have := hk.many; simp only [List.length_append, List.length_singleton]; omega
    · rcases List.mem_append.1 hs with hs | hs
      · exact hk.syms s hs
      · obtain rfl := List.mem_singleton.1 hs
        have := hr.sym h2
        rw [← hh] at this; exact this
    · refine List.pairwise_append.2 ⟨hk.apart, List.pairwise_singleton _ _, fun a ha b hb => ?_⟩
      obtain rfl := List.mem_singleton.1 hb
      exact a3 a ha
  split at e
  · rename_i h2 h3
    unfold deliverF at e
    repeat' split at e
    all_goals try (simp only [Prod.mk.injEq] at e; exact absurd e.2 (by first | decide | assumption))
    rename_i a1 a2 a3 a4
    simp only [Prod.mk.injEq, and_true] at e
    subst e
    simp only [ne_eq, Decidable.not_not, not_or, Bool.not_eq_true] at a1 a2
    refine ⟨⟨hk.head, hk.till, hk.own, hk.cargo, hk.size, fun _ => rfl, ⟨by simp [Kp.over], hk.many.2⟩, by simp [Kp.over], by simp [Kp.over], by simp [Kp.over], by simp [Kp.over], by simp [Kp.over], hk.try_, by simp [Kp.over], by simp [Kp.over], hk.took, hk.tooks, fun _ => ⟨a1, a2.2⟩, fun _ => by simp [Kp.over]⟩, rfl⟩
  split at e
  · unfold purgeF at e
    split at e
    · simp only [Prod.mk.injEq] at e; exact absurd e.2 (by decide)
    rename_i a2
    simp only [Prod.mk.injEq, and_true] at e
    subst e
    simp only [not_or, Bool.not_eq_true] at a2
    exact ⟨⟨hk.head, hk.till, hk.own, hk.cargo, hk.size, fun _ => rfl, ⟨by simp [Kp.over], hk.many.2⟩, by simp [Kp.over], by simp [Kp.over], by simp [Kp.over], by simp [Kp.over], by simp [Kp.over], hk.try_, by simp [Kp.over], by simp [Kp.over], hk.took, hk.tooks, fun hd => by simp [Kp.over, a2.1] at hd, fun _ => by simp [Kp.over]⟩, rfl⟩
  rename_i h2 h3 h7
  unfold shareF at e
  split at e
  · simp only [Prod.mk.injEq] at e; exact absurd e.2 (by decide)
  rename_i a2
  split at e
  · unfold giveF at e
    repeat' split at e
    all_goals try (simp only [Prod.mk.injEq] at e; exact absurd e.2 (by decide))
    rename_i a3 a4 a5 a6
    simp only [Prod.mk.injEq, and_true] at e
    subst e
    have h1 := hk.shares
    have h4 := hk.try_
    have h5 := hr.try_
    have h6 := hr.place
    have h8 : k.shares / 2 * 2 ≤ k.shares := Int.ediv_mul_le _ (by decide)
    exact ⟨⟨hk.head, hk.till, hk.own, hk.cargo, hk.size, hk.nosym, hk.many, hk.syms, hk.apart, by simp only []; omega, by simp only []; omega, by simp only []; omega, by simp only []; omega, by simp only []; omega, by simp only []; intro _; exact ⟨a4, by omega⟩, hk.took, hk.tooks, hk.deliv, fun hd => absurd hd a2⟩, rfl⟩
  split at e
  · unfold givenF at e
    split at e
    · simp only [Prod.mk.injEq] at e; exact absurd e.2 (by decide)
    simp only [Prod.mk.injEq, and_true] at e
    subst e
    exact ⟨⟨hk.head, hk.till, hk.own, hk.cargo, hk.size, hk.nosym, hk.many, hk.syms, hk.apart, hk.shares, by simp, by simp, hk.try_, by simp, by simp, hk.took, hk.tooks, hk.deliv, fun hd => absurd hd a2⟩, rfl⟩
  · unfold takeF at e
    repeat' split at e
    all_goals try (simp only [Prod.mk.injEq] at e; exact absurd e.2 (by decide))
    rename_i a3 a4 a5 a6 a7
    simp only [Prod.mk.injEq, and_true] at e
    subst e
    simp only [List.any_eq_true, decide_eq_true_eq, not_exists, not_and] at a6
    have h1 := hk.shares
    have h5 := hr.try_
    have h6 := hr.place
    have h8 := hk.many
    refine ⟨⟨hk.head, hk.till, hk.own, hk.cargo, hk.size, hk.nosym, ?_, hk.syms, hk.apart, by simp only []; omega, hk.giving, hk.towards, hk.try_, hk.none_, hk.some_, fun t ht => ?_, ?_, hk.deliv, fun hd => absurd hd a2⟩, rfl⟩
    · simp only [List.length_append, List.length_singleton]; omega
    · rcases List.mem_append.1 ht with ht | ht
      · exact hk.took t ht
      · obtain rfl := List.mem_singleton.1 ht
        simp only []; omega
    · refine List.pairwise_append.2 ⟨hk.tooks, List.pairwise_singleton _ _, fun a ha b hb => ?_⟩
      obtain rfl := List.mem_singleton.1 hb
      exact a6 a ha
end Go.Proofs.Ytojoodmnmhcojaa
namespace Go.Proofs.Ytojoodmnmhcojaa
open Go.RowKit
attribute [local irreducible] wpList

/-- A place in hand, each bundle in blocks of its own. -/
structure PlA (w : World) (base pb : Nat) (p : Pc) (A : Option Addr) (c : Nat) (lo : Nat → Nat) : Prop where
  blk : w.heap[pb]? = some (.cells #[.int .i64 p.me, .slice A p.keep.length c, .int .i64 p.time, .int .i64 p.seq] 25 (0, 0))
  low : pb < base
  all : AllM w base (.slice A p.keep.length c) p.keep lo
theorem PlA.plM {w : World} {base pb : Nat} {p : Pc} {A : Option Addr} {c : Nat} {lo : Nat → Nat} (h : PlA w base pb p A c lo) : PlM w base pb p A c := ⟨h.blk, h.low, h.all.toOwn⟩
theorem PlA.fr {w w' : World} {base pb : Nat} {p : Pc} {A : Option Addr} {c : Nat} {lo : Nat → Nat} (h : PlA w base pb p A c lo) (k : Fr w w') : PlA w' base pb p A c lo := ⟨blk_go h.blk k, h.low, h.all.chg (S := fun _ => False) k.chg fun _ _ _ e => e⟩
/-- What keep.bundle may change. -/
def BunS (pb : Nat) (v : Value) (b : Nat) : Prop := b = pb ∨ v.ownBlock = some b
/-- What keep.bundle leaves. -/
def BunPost (w : World) (base pb : Nat) (p : Pc) (A : Option Addr) (c : Nat) (h : Hd) (e : Ending) (w' : World) : Prop :=
  (e = .returned (.tuple #[.pointer none, .int .i64 (bundleF p h).2]) ∧ (bundleF p h).2 ≠ 0 ∧ Chg (BunS pb (.slice A p.keep.length c)) w w' ∧ ∃ A c, PlM w' base pb p A c) ∨
  ∃ (l : List Kp) (i : Nat) (x : Kp) (g cap : Nat) (Ac : Option Addr) (nc cc : Nat) (vS vT : Value) (T : Nat → Prop), bundleF p h = ((l, i, x), 0) ∧ e = .returned (.tuple #[.pointer (some ⟨g, i * 16, none⟩), .int .i64 0]) ∧ Chg (BunS pb (.slice A p.keep.length c)) w w' ∧
    w'.heap[pb]? = some (.cells #[.int .i64 p.me, .slice (some ⟨g, 0, none⟩) l.length cap, .int .i64 p.time, .int .i64 p.seq] 25 (0, 0)) ∧ Foc0 T w' base g cap l i x Ac nc cc vS vT
set_option maxRecDepth 100000 in
set_option maxHeartbeats 16000000 in
theorem bundle_any (w : World) (base pb : Nat) (p : Pc) (A : Option Addr) (c : Nat) (lo : Nat → Nat) (hp : PlA w base pb p A c lo) (h12 : p.keep.length ≤ 12) (h : Hd) (hwh : h.wf) (hb : base ≤ w.heap.size) :
    Calls Try.prog 31 #[.pointer (some ⟨pb, 0, none⟩), .agg #[.int .i64 h.frm, .int .i64 h.seq, .int .i64 h.to, .int .i64 h.till, .int .i64 h.bytes, .int .i64 h.block]] w (BunPost w base pb p A c h) := by
  have E := Lib.hid (bundleF.eq_1 p h)
  have hbb := hp.blk
  have hpb := hp.low
  have H := Lib.hid hp
  have hpl := (Array.getElem?_eq_some_iff.1 hbb).1
  have fin : ∀ x k W, Fr w W → k ≠ 0 → bundleF p h = (x, k) → BunPost w base pb p A c h (.returned (.tuple #[.pointer none, .int .i64 k])) W := fun x k W hf hk e => by
    refine .inl ⟨by rw [e], by rw [e]; exact hk, hf.chg, _, _, (H.out.fr hf).plM⟩
  have FIN := Lib.hid fin
  clear fin
  go_enter Try.func31, Try.ntmps31
  go_upto_region 1 with fail
  obtain ⟨W1, hW1⟩ : ∃ W1, W1 = w.alloc (.cells #[.int .i64 h.frm, .int .i64 h.seq, .int .i64 h.to, .int .i64 h.till, .int .i64 h.bytes, .int .i64 h.block] 34) := ⟨_, rfl⟩
  obtain ⟨q, hq⟩ : ∃ q, q = w.heap.size := ⟨_, rfl⟩
  have HQ : Hid (W1.heap[q]? = some (.cells #[.int .i64 h.frm, .int .i64 h.seq, .int .i64 h.to, .int .i64 h.till, .int .i64 h.bytes, .int .i64 h.block] 34 (0, 0))) := by rw [hW1]; exact heap_new hq
  have HF1 : Hid (Fr w W1) := by rw [hW1]; exact frAlloc _ _
  rw [← hW1, ← hq]
  have HQW : Hid (q = w.heap.size) := hq
  clear hW1 hq hp hbb
  have hbx := blk_go H.out.blk HF1.out
  have hqx := HQ.out
  (obtain ⟨bp0, bp1, bp2, bp3⟩ := box4_ hbx)
  (obtain ⟨bx0, bx1, bx2, bx3, bx4, bx5⟩ := box6_ hqx)
  clear hbx hqx
  by_cases h1 : h.till ≤ p.time
  case pos =>
    have E1 := Lib.hid (E.out.trans (if_pos h1))
    have t1 : decide (h.till ≤ p.time) = true := by simp [h1]
    clear E h1
    go_quiet (fail)
    go_wp2_with fail
    go_ret2
    exact FIN.out _ _ _ (by (repeat' (first | exact Below.refl _ _ | refine below_drewN ?_ _ | refine Below.drew ?_ | refine frA ?_ _ | refine Fr.trans ?_ HF1.out))) (by decide) E1.out
  case neg =>
  have E1 := Lib.hid (E.out.trans (if_neg h1))
  have t1 : decide (h.till ≤ p.time) = false := by simp; omega
  clear E h1
  go_quiet (fail)
  obtain ⟨W2, hW2⟩ : ∃ W2, W2 = W1.drewN nq := ⟨_, rfl⟩
  have HF12 : Hid (Fr W1 W2) := by rw [hW2]; exact below_drewN (Below.refl _ _) _
  rw [← hW2]
  have HF2' : Hid (Fr w W2) := HF1.out.trans HF12.out
  clear hW2 t1 bp0 bp1 bp2 bp3 bx0 bx1 bx2 bx3 bx4 bx5
  obtain ⟨n, hn⟩ : ∃ n, n = p.keep.length := ⟨_, rfl⟩
  have hbx := (H.out.fr HF2'.out).blk
  rw [← hn] at hbx
  have hqx := blk_go HQ.out HF12.out
  (obtain ⟨bp0, bp1, bp2, bp3⟩ := box4_ hbx)
  (obtain ⟨bx0, bx1, bx2, bx3, bx4, bx5⟩ := box6_ hqx)
  have hSC : Hid (∀ w', Fr W2 w' → w'.cell? ⟨pb, 0, none⟩ = some (.int .i64 p.me) ∧ w'.cell? ⟨pb, 1, none⟩ = some (.slice A n c) ∧ w'.cell? ⟨pb, 2, none⟩ = some (.int .i64 p.time) ∧ w'.cell? ⟨pb, 3, none⟩ = some (.int .i64 p.seq) ∧ w'.cell? ⟨q, 0, none⟩ = some (.int .i64 h.frm) ∧ w'.cell? ⟨q, 1, none⟩ = some (.int .i64 h.seq)) := fun w' hf => ⟨(hf.cell (World.block_lt_of_cell? W2 _ bp0)).trans bp0, (hf.cell (World.block_lt_of_cell? W2 _ bp1)).trans bp1, (hf.cell (World.block_lt_of_cell? W2 _ bp2)).trans bp2, (hf.cell (World.block_lt_of_cell? W2 _ bp3)).trans bp3, (hf.cell (World.block_lt_of_cell? W2 _ bx0)).trans bx0, (hf.cell (World.block_lt_of_cell? W2 _ bx1)).trans bx1⟩
  obtain ⟨kf, hkf⟩ : ∃ kf, kf = findF p.keep h.frm h.seq := ⟨_, rfl⟩
  have FD : Hid (∀ W, Fr w W → Calls Try.prog 9 #[.agg #[.int .i64 p.me, .slice A n c, .int .i64 p.time, .int .i64 p.seq], .int .i64 h.frm, .int .i64 h.seq] W fun e w' => e = .returned (.int .i64 kf) ∧ Fr W w') := fun W hf => by
    rw [hkf]
    obtain ⟨A9, c9, e9, ⟨hc9, hm9⟩, hsl⟩ := (((H.out.fr hf).plM.own).ofHi sKp).slC sKp (by decide)
    injection e9 with e9 _ e10
    subst e9 e10
    rw [hn]
    exact keepFind_any W p.me p.time p.seq A _ c p.keep h.frm h.seq hsl (by unfold maxLen; omega)
  have HN := Lib.hid hn
  have HKF := Lib.hid hkf
  clear hbx hqx hn hkf bp0 bp1 bp2 bp3 bx0 bx1 bx2 bx3 bx4 bx5
  go_upto_region 3 with fail
  refine held_begin (n := 9) (bs := #[false, false, false, false, false, false, false, false, false]) rfl rfl (by kernel_rfl) (S := fun w' => w'.cell? ⟨pb, 0, none⟩ = some (.int .i64 p.me) ∧ w'.cell? ⟨pb, 1, none⟩ = some (.slice A n c) ∧ w'.cell? ⟨pb, 2, none⟩ = some (.int .i64 p.time) ∧ w'.cell? ⟨pb, 3, none⟩ = some (.int .i64 p.seq) ∧ w'.cell? ⟨q, 0, none⟩ = some (.int .i64 h.frm) ∧ w'.cell? ⟨q, 1, none⟩ = some (.int .i64 h.seq)) (hSC.out _ (Below.refl _ _).drew) (fun hHeld => ?_)
  ((first | (refine held_skip (i := 0) (a' := ?hA150) (l' := ?hL150) rfl (by kernel_rfl) (by kernel_rfl) (by kernel_rfl) (fun _ _ _ h => h) (by rfl) (by assumption) ?ha150 ?hl150 ?hh150; (case ha150 => (simp only [Act.put, hq1, hq2, hq3, Option.isNone, Bool.not_true, Bool.not_false]; (try with_reducible rfl))); (case hl150 => (simp only [Act.put, hq1, hq2, hq3, Option.isNone, Bool.not_true, Bool.not_false]; (try with_reducible rfl)))) | (refine held_take (i := 0) (v := ?hV150) (a' := ?hA150) (l' := ?hL150) rfl (by kernel_rfl) (by kernel_rfl) (by kernel_rfl) (fun _ _ _ h => h) (by rfl) ?hv150 (by assumption) ?ha150 ?hl150 ?hh150; (case hv150 => (intro w hSw; (try dsimp only at hSw); go_simp; (try simp only [run_eql_slice_nil _ 36 _ _ _ _ Try.underlying36, Result.andThen_ok]); (try with_reducible rfl))); (case ha150 => (simp only [Act.put, hq1, hq2, hq3, Option.isNone, Bool.not_true, Bool.not_false]; (try with_reducible rfl))); (case hl150 => (simp only [Act.put, hq1, hq2, hq3, Option.isNone, Bool.not_true, Bool.not_false]; (try with_reducible rfl))))); (first | (refine held_skip (i := 1) (a' := ?hA151) (l' := ?hL151) rfl (by kernel_rfl) (by kernel_rfl) (by kernel_rfl) (fun _ _ _ h => h) (by rfl) (by assumption) ?ha151 ?hl151 ?hh151; (case ha151 => (simp only [Act.put, hq1, hq2, hq3, Option.isNone, Bool.not_true, Bool.not_false]; (try with_reducible rfl))); (case hl151 => (simp only [Act.put, hq1, hq2, hq3, Option.isNone, Bool.not_true, Bool.not_false]; (try with_reducible rfl)))) | (refine held_take (i := 1) (v := ?hV151) (a' := ?hA151) (l' := ?hL151) rfl (by kernel_rfl) (by kernel_rfl) (by kernel_rfl) (fun _ _ _ h => h) (by rfl) ?hv151 (by assumption) ?ha151 ?hl151 ?hh151; (case hv151 => (intro w hSw; (try dsimp only at hSw); go_simp; (try simp only [run_eql_slice_nil _ 36 _ _ _ _ Try.underlying36, Result.andThen_ok]); (try with_reducible rfl))); (case ha151 => (simp only [Act.put, hq1, hq2, hq3, Option.isNone, Bool.not_true, Bool.not_false]; (try with_reducible rfl))); (case hl151 => (simp only [Act.put, hq1, hq2, hq3, Option.isNone, Bool.not_true, Bool.not_false]; (try with_reducible rfl))))); (first | (refine held_skip (i := 2) (a' := ?hA152) (l' := ?hL152) rfl (by kernel_rfl) (by kernel_rfl) (by kernel_rfl) (fun _ _ _ h => h) (by rfl) (by assumption) ?ha152 ?hl152 ?hh152; (case ha152 => (simp only [Act.put, hq1, hq2, hq3, Option.isNone, Bool.not_true, Bool.not_false]; (try with_reducible rfl))); (case hl152 => (simp only [Act.put, hq1, hq2, hq3, Option.isNone, Bool.not_true, Bool.not_false]; (try with_reducible rfl)))) | (refine held_take (i := 2) (v := ?hV152) (a' := ?hA152) (l' := ?hL152) rfl (by kernel_rfl) (by kernel_rfl) (by kernel_rfl) (fun _ _ _ h => h) (by rfl) ?hv152 (by assumption) ?ha152 ?hl152 ?hh152; (case hv152 => (intro w hSw; (try dsimp only at hSw); go_simp; (try simp only [run_eql_slice_nil _ 36 _ _ _ _ Try.underlying36, Result.andThen_ok]); (try with_reducible rfl))); (case ha152 => (simp only [Act.put, hq1, hq2, hq3, Option.isNone, Bool.not_true, Bool.not_false]; (try with_reducible rfl))); (case hl152 => (simp only [Act.put, hq1, hq2, hq3, Option.isNone, Bool.not_true, Bool.not_false]; (try with_reducible rfl))))); (first | (refine held_skip (i := 3) (a' := ?hA153) (l' := ?hL153) rfl (by kernel_rfl) (by kernel_rfl) (by kernel_rfl) (fun _ _ _ h => h) (by rfl) (by assumption) ?ha153 ?hl153 ?hh153; (case ha153 => (simp only [Act.put, hq1, hq2, hq3, Option.isNone, Bool.not_true, Bool.not_false]; (try with_reducible rfl))); (case hl153 => (simp only [Act.put, hq1, hq2, hq3, Option.isNone, Bool.not_true, Bool.not_false]; (try with_reducible rfl)))) | (refine held_take (i := 3) (v := ?hV153) (a' := ?hA153) (l' := ?hL153) rfl (by kernel_rfl) (by kernel_rfl) (by kernel_rfl) (fun _ _ _ h => h) (by rfl) ?hv153 (by assumption) ?ha153 ?hl153 ?hh153; (case hv153 => (intro w hSw; (try dsimp only at hSw); go_simp; (try simp only [run_eql_slice_nil _ 36 _ _ _ _ Try.underlying36, Result.andThen_ok]); (try with_reducible rfl))); (case ha153 => (simp only [Act.put, hq1, hq2, hq3, Option.isNone, Bool.not_true, Bool.not_false]; (try with_reducible rfl))); (case hl153 => (simp only [Act.put, hq1, hq2, hq3, Option.isNone, Bool.not_true, Bool.not_false]; (try with_reducible rfl))))); (first | (refine held_skip (i := 4) (a' := ?hA154) (l' := ?hL154) rfl (by kernel_rfl) (by kernel_rfl) (by kernel_rfl) (fun _ _ _ h => h) (by rfl) (by assumption) ?ha154 ?hl154 ?hh154; (case ha154 => (simp only [Act.put, hq1, hq2, hq3, Option.isNone, Bool.not_true, Bool.not_false]; (try with_reducible rfl))); (case hl154 => (simp only [Act.put, hq1, hq2, hq3, Option.isNone, Bool.not_true, Bool.not_false]; (try with_reducible rfl)))) | (refine held_take (i := 4) (v := ?hV154) (a' := ?hA154) (l' := ?hL154) rfl (by kernel_rfl) (by kernel_rfl) (by kernel_rfl) (fun _ _ _ h => h) (by rfl) ?hv154 (by assumption) ?ha154 ?hl154 ?hh154; (case hv154 => (intro w hSw; (try dsimp only at hSw); go_simp; (try simp only [run_eql_slice_nil _ 36 _ _ _ _ Try.underlying36, Result.andThen_ok]); (try with_reducible rfl))); (case ha154 => (simp only [Act.put, hq1, hq2, hq3, Option.isNone, Bool.not_true, Bool.not_false]; (try with_reducible rfl))); (case hl154 => (simp only [Act.put, hq1, hq2, hq3, Option.isNone, Bool.not_true, Bool.not_false]; (try with_reducible rfl))))); (first | (refine held_skip (i := 5) (a' := ?hA155) (l' := ?hL155) rfl (by kernel_rfl) (by kernel_rfl) (by kernel_rfl) (fun _ _ _ h => h) (by rfl) (by assumption) ?ha155 ?hl155 ?hh155; (case ha155 => (simp only [Act.put, hq1, hq2, hq3, Option.isNone, Bool.not_true, Bool.not_false]; (try with_reducible rfl))); (case hl155 => (simp only [Act.put, hq1, hq2, hq3, Option.isNone, Bool.not_true, Bool.not_false]; (try with_reducible rfl)))) | (refine held_take (i := 5) (v := ?hV155) (a' := ?hA155) (l' := ?hL155) rfl (by kernel_rfl) (by kernel_rfl) (by kernel_rfl) (fun _ _ _ h => h) (by rfl) ?hv155 (by assumption) ?ha155 ?hl155 ?hh155; (case hv155 => (intro w hSw; (try dsimp only at hSw); go_simp; (try simp only [run_eql_slice_nil _ 36 _ _ _ _ Try.underlying36, Result.andThen_ok]); (try with_reducible rfl))); (case ha155 => (simp only [Act.put, hq1, hq2, hq3, Option.isNone, Bool.not_true, Bool.not_false]; (try with_reducible rfl))); (case hl155 => (simp only [Act.put, hq1, hq2, hq3, Option.isNone, Bool.not_true, Bool.not_false]; (try with_reducible rfl))))); (first | (refine held_skip (i := 6) (a' := ?hA156) (l' := ?hL156) rfl (by kernel_rfl) (by kernel_rfl) (by kernel_rfl) (fun _ _ _ h => h) (by rfl) (by assumption) ?ha156 ?hl156 ?hh156; (case ha156 => (simp only [Act.put, hq1, hq2, hq3, Option.isNone, Bool.not_true, Bool.not_false]; (try with_reducible rfl))); (case hl156 => (simp only [Act.put, hq1, hq2, hq3, Option.isNone, Bool.not_true, Bool.not_false]; (try with_reducible rfl)))) | (refine held_take (i := 6) (v := ?hV156) (a' := ?hA156) (l' := ?hL156) rfl (by kernel_rfl) (by kernel_rfl) (by kernel_rfl) (fun _ _ _ h => h) (by rfl) ?hv156 (by assumption) ?ha156 ?hl156 ?hh156; (case hv156 => (intro w hSw; (try dsimp only at hSw); go_simp; (try simp only [run_eql_slice_nil _ 36 _ _ _ _ Try.underlying36, Result.andThen_ok]); (try with_reducible rfl))); (case ha156 => (simp only [Act.put, hq1, hq2, hq3, Option.isNone, Bool.not_true, Bool.not_false]; (try with_reducible rfl))); (case hl156 => (simp only [Act.put, hq1, hq2, hq3, Option.isNone, Bool.not_true, Bool.not_false]; (try with_reducible rfl))))))
  refine held_one (i := 7) rfl (by kernel_rfl) (fun K hK => ?_)
  go_simp
  go_at_call 9
  (with_reducible refine (FD.out _ (HF2'.out.trans (Below.refl _ _).drew)).mono ?_)
  rintro e w5 ⟨rfl, hf5⟩
  have HF25 : Hid (Fr W2 w5) := Fr.trans (Below.refl _ _).drew hf5
  (refine held_back hK (a' := ?hA257) (l' := ?hL257) ?ha257 ?hl257 (hSC.out _ HF25.out) (fun hHeld => ?hh257); (case ha257 => first | with_reducible rfl | (simp only [Act.put, hq1, hq2, hq3, Option.isNone, Bool.not_true, Bool.not_false]; (try with_reducible rfl))); (case hl257 => (simp only [Act.put, hq1, hq2, hq3, Option.isNone, Bool.not_true, Bool.not_false]; (try with_reducible rfl))); clear hK K)
  ((first | (refine held_skip (i := 8) (a' := ?hA157) (l' := ?hL157) rfl (by kernel_rfl) (by kernel_rfl) (by kernel_rfl) (fun _ _ _ h => h) (by rfl) (by assumption) ?ha157 ?hl157 ?hh157; (case ha157 => (simp only [Act.put, hq1, hq2, hq3, Option.isNone, Bool.not_true, Bool.not_false]; (try with_reducible rfl))); (case hl157 => (simp only [Act.put, hq1, hq2, hq3, Option.isNone, Bool.not_true, Bool.not_false]; (try with_reducible rfl)))) | (refine held_take (i := 8) (v := ?hV157) (a' := ?hA157) (l' := ?hL157) rfl (by kernel_rfl) (by kernel_rfl) (by kernel_rfl) (fun _ _ _ h => h) (by rfl) ?hv157 (by assumption) ?ha157 ?hl157 ?hh157; (case hv157 => (intro w hSw; (try dsimp only at hSw); go_simp; (try simp only [run_eql_slice_nil _ 36 _ _ _ _ Try.underlying36, Result.andThen_ok]); (try with_reducible rfl))); (case ha157 => (simp only [Act.put, hq1, hq2, hq3, Option.isNone, Bool.not_true, Bool.not_false]; (try with_reducible rfl))); (case hl157 => (simp only [Act.put, hq1, hq2, hq3, Option.isNone, Bool.not_true, Bool.not_false]; (try with_reducible rfl))))))
  refine wpAnyH_done (by kernel_rfl) ?_ _
  have HQ2 := Lib.hid (blk_go HQ.out (HF12.out.trans HF25.out))
  have HF2 : Hid (Fr w w5) := HF2'.out.trans HF25.out
  obtain ⟨W2, rfl⟩ : ∃ W2, W2 = w5 := ⟨_, rfl⟩
  clear hf5 hSC hHeld FD HF25 HF2' HF12 HF1
  have hbx := (H.out.fr HF2.out).blk
  rw [← HN.out] at hbx
  have hqx := HQ2.out
  (obtain ⟨bp0, bp1, bp2, bp3⟩ := box4_ hbx)
  (obtain ⟨bx0, bx1, bx2, bx3, bx4, bx5⟩ := box6_ hqx)
  clear hbx hqx
  obtain ⟨ft, hft⟩ : ∃ ft, ft = findAt h.frm h.seq p.keep := ⟨_, rfl⟩
  have HFT := Lib.hid hft
  rw [← hft] at E1
  have hkf2 := HKF.out
  unfold findF at hkf2
  rw [← hft] at hkf2
  clear hft
  cases ft with
  | some i =>
    simp only [] at hkf2
    subst hkf2
    obtain ⟨x, hx, hxe⟩ := findAt_some HFT.out.symm
    have hin : i < n := by rw [HN.out]; exact (List.getElem?_eq_some_iff.1 hx).1
    obtain ⟨g, cap, Ac, nc, cc, vS, vT, T, e1, hF, hav, hne, hnew⟩ := (H.out.fr HF2.out).all.foc hx |> fun _ => (H.out.fr HF2.out).all.foc2 hx
    injection e1 with e1 e2 e3
    subst e1 e3
    have HFO : Hid (Foc0 T W2 base g c p.keep i x Ac nc cc vS vT) := ⟨hF, hav, hne, hnew⟩
    have hgx : (p.keep[i]?).getD (Kp.fresh h) = x := by rw [hx]; rfl
    dsimp only at E1
    rw [hgx] at E1
    obtain ⟨m0, m1, m2, m3, m4, m5, _⟩ := hF.cells
    clear hav hne hnew hF e2 hgx hx hxe
    have hge : (0 : Int) ≤ (i : Int) := by omega
    have hin2 : (i : Int) < (n : Int) := by omega
    have hwi : IntKind.i64.wrap (i : Int) = (i : Int) := by have := HN.out; rw [IntKind.wrap_i64]; omega
    have hS5 : Hid (∀ w', Fr W2 w' → w'.cell? ⟨pb, 1, none⟩ = some (.slice (some ⟨g, 0, none⟩) n c) ∧ w'.cell? ⟨g, i * 16, none⟩ = some (.int .i64 x.h.frm) ∧ w'.cell? ⟨g, i * 16 + 1, none⟩ = some (.int .i64 x.h.seq) ∧ w'.cell? ⟨g, i * 16 + 2, none⟩ = some (.int .i64 x.h.to) ∧ w'.cell? ⟨g, i * 16 + 3, none⟩ = some (.int .i64 x.h.till) ∧ w'.cell? ⟨g, i * 16 + 4, none⟩ = some (.int .i64 x.h.bytes) ∧ w'.cell? ⟨g, i * 16 + 5, none⟩ = some (.int .i64 x.h.block) ∧ w'.cell? ⟨q, 0, none⟩ = some (.int .i64 h.frm) ∧ w'.cell? ⟨q, 1, none⟩ = some (.int .i64 h.seq) ∧ w'.cell? ⟨q, 2, none⟩ = some (.int .i64 h.to) ∧ w'.cell? ⟨q, 3, none⟩ = some (.int .i64 h.till) ∧ w'.cell? ⟨q, 4, none⟩ = some (.int .i64 h.bytes) ∧ w'.cell? ⟨q, 5, none⟩ = some (.int .i64 h.block)) := fun w' hf => ⟨(hf.cell (World.block_lt_of_cell? W2 _ bp1)).trans bp1, (hf.cell (World.block_lt_of_cell? W2 _ m0)).trans m0, (hf.cell (World.block_lt_of_cell? W2 _ m1)).trans m1, (hf.cell (World.block_lt_of_cell? W2 _ m2)).trans m2, (hf.cell (World.block_lt_of_cell? W2 _ m3)).trans m3, (hf.cell (World.block_lt_of_cell? W2 _ m4)).trans m4, (hf.cell (World.block_lt_of_cell? W2 _ m5)).trans m5, (hf.cell (World.block_lt_of_cell? W2 _ bx0)).trans bx0, (hf.cell (World.block_lt_of_cell? W2 _ bx1)).trans bx1, (hf.cell (World.block_lt_of_cell? W2 _ bx2)).trans bx2, (hf.cell (World.block_lt_of_cell? W2 _ bx3)).trans bx3, (hf.cell (World.block_lt_of_cell? W2 _ bx4)).trans bx4, (hf.cell (World.block_lt_of_cell? W2 _ bx5)).trans bx5⟩
    by_cases h3 : x.h = h
    · have E2 := Lib.hid (E1.out.trans (if_neg (fun e => e h3)))
      have hq := fun (V : World) => eqHd x.h h V
      rw [decide_eq_true h3] at hq
      clear E1 h3
      go_upto_region 5 with fail
      refine held_begin (n := 10) (bs := #[false, false, false, false, false, false, false, false, false, false]) rfl rfl (by kernel_rfl) (S := fun w' => w'.cell? ⟨pb, 1, none⟩ = some (.slice (some ⟨g, 0, none⟩) n c) ∧ w'.cell? ⟨g, i * 16, none⟩ = some (.int .i64 x.h.frm) ∧ w'.cell? ⟨g, i * 16 + 1, none⟩ = some (.int .i64 x.h.seq) ∧ w'.cell? ⟨g, i * 16 + 2, none⟩ = some (.int .i64 x.h.to) ∧ w'.cell? ⟨g, i * 16 + 3, none⟩ = some (.int .i64 x.h.till) ∧ w'.cell? ⟨g, i * 16 + 4, none⟩ = some (.int .i64 x.h.bytes) ∧ w'.cell? ⟨g, i * 16 + 5, none⟩ = some (.int .i64 x.h.block) ∧ w'.cell? ⟨q, 0, none⟩ = some (.int .i64 h.frm) ∧ w'.cell? ⟨q, 1, none⟩ = some (.int .i64 h.seq) ∧ w'.cell? ⟨q, 2, none⟩ = some (.int .i64 h.to) ∧ w'.cell? ⟨q, 3, none⟩ = some (.int .i64 h.till) ∧ w'.cell? ⟨q, 4, none⟩ = some (.int .i64 h.bytes) ∧ w'.cell? ⟨q, 5, none⟩ = some (.int .i64 h.block)) (hS5.out _ (Below.refl _ _).drew) (fun hHeld => ?_)
      ((first | (refine held_skip (i := 0) (a' := ?hA158) (l' := ?hL158) rfl (by kernel_rfl) (by kernel_rfl) (by kernel_rfl) (fun _ _ _ h => h) (by rfl) (by assumption) ?ha158 ?hl158 ?hh158; (case ha158 => (simp only [Act.put, hq1, hq2, hq3, Option.isNone, Bool.not_true, Bool.not_false]; (try with_reducible rfl))); (case hl158 => (simp only [Act.put, hq1, hq2, hq3, Option.isNone, Bool.not_true, Bool.not_false]; (try with_reducible rfl)))) | (refine held_take (i := 0) (v := ?hV158) (a' := ?hA158) (l' := ?hL158) rfl (by kernel_rfl) (by kernel_rfl) (by kernel_rfl) (fun _ _ _ h => h) (by rfl) ?hv158 (by assumption) ?ha158 ?hl158 ?hh158; (case hv158 => (intro w hSw; (try dsimp only at hSw); go_simp; (try simp only [run_eql_slice_nil _ 36 _ _ _ _ Try.underlying36, Result.andThen_ok]); (try with_reducible rfl))); (case ha158 => (simp only [Act.put, hq1, hq2, hq3, Option.isNone, Bool.not_true, Bool.not_false]; (try with_reducible rfl))); (case hl158 => (simp only [Act.put, hq1, hq2, hq3, Option.isNone, Bool.not_true, Bool.not_false]; (try with_reducible rfl))))); (first | (refine held_skip (i := 1) (a' := ?hA159) (l' := ?hL159) rfl (by kernel_rfl) (by kernel_rfl) (by kernel_rfl) (fun _ _ _ h => h) (by rfl) (by assumption) ?ha159 ?hl159 ?hh159; (case ha159 => (simp only [Act.put, hq1, hq2, hq3, Option.isNone, Bool.not_true, Bool.not_false]; (try with_reducible rfl))); (case hl159 => (simp only [Act.put, hq1, hq2, hq3, Option.isNone, Bool.not_true, Bool.not_false]; (try with_reducible rfl)))) | (refine held_take (i := 1) (v := ?hV159) (a' := ?hA159) (l' := ?hL159) rfl (by kernel_rfl) (by kernel_rfl) (by kernel_rfl) (fun _ _ _ h => h) (by rfl) ?hv159 (by assumption) ?ha159 ?hl159 ?hh159; (case hv159 => (intro w hSw; (try dsimp only at hSw); go_simp; (try simp only [run_eql_slice_nil _ 36 _ _ _ _ Try.underlying36, Result.andThen_ok]); (try with_reducible rfl))); (case ha159 => (simp only [Act.put, hq1, hq2, hq3, Option.isNone, Bool.not_true, Bool.not_false]; (try with_reducible rfl))); (case hl159 => (simp only [Act.put, hq1, hq2, hq3, Option.isNone, Bool.not_true, Bool.not_false]; (try with_reducible rfl))))); (first | (refine held_skip (i := 2) (a' := ?hA160) (l' := ?hL160) rfl (by kernel_rfl) (by kernel_rfl) (by kernel_rfl) (fun _ _ _ h => h) (by rfl) (by assumption) ?ha160 ?hl160 ?hh160; (case ha160 => (simp only [Act.put, hq1, hq2, hq3, Option.isNone, Bool.not_true, Bool.not_false]; (try with_reducible rfl))); (case hl160 => (simp only [Act.put, hq1, hq2, hq3, Option.isNone, Bool.not_true, Bool.not_false]; (try with_reducible rfl)))) | (refine held_take (i := 2) (v := ?hV160) (a' := ?hA160) (l' := ?hL160) rfl (by kernel_rfl) (by kernel_rfl) (by kernel_rfl) (fun _ _ _ h => h) (by rfl) ?hv160 (by assumption) ?ha160 ?hl160 ?hh160; (case hv160 => (intro w hSw; (try dsimp only at hSw); go_simp; (try simp only [run_eql_slice_nil _ 36 _ _ _ _ Try.underlying36, Result.andThen_ok]); (try with_reducible rfl))); (case ha160 => (simp only [Act.put, hq1, hq2, hq3, Option.isNone, Bool.not_true, Bool.not_false]; (try with_reducible rfl))); (case hl160 => (simp only [Act.put, hq1, hq2, hq3, Option.isNone, Bool.not_true, Bool.not_false]; (try with_reducible rfl))))); (first | (refine held_skip (i := 3) (a' := ?hA161) (l' := ?hL161) rfl (by kernel_rfl) (by kernel_rfl) (by kernel_rfl) (fun _ _ _ h => h) (by rfl) (by assumption) ?ha161 ?hl161 ?hh161; (case ha161 => (simp only [Act.put, hq1, hq2, hq3, Option.isNone, Bool.not_true, Bool.not_false]; (try with_reducible rfl))); (case hl161 => (simp only [Act.put, hq1, hq2, hq3, Option.isNone, Bool.not_true, Bool.not_false]; (try with_reducible rfl)))) | (refine held_take (i := 3) (v := ?hV161) (a' := ?hA161) (l' := ?hL161) rfl (by kernel_rfl) (by kernel_rfl) (by kernel_rfl) (fun _ _ _ h => h) (by rfl) ?hv161 (by assumption) ?ha161 ?hl161 ?hh161; (case hv161 => (intro w hSw; (try dsimp only at hSw); go_simp; (try simp only [run_eql_slice_nil _ 36 _ _ _ _ Try.underlying36, Result.andThen_ok]); (try with_reducible rfl))); (case ha161 => (simp only [Act.put, hq1, hq2, hq3, Option.isNone, Bool.not_true, Bool.not_false]; (try with_reducible rfl))); (case hl161 => (simp only [Act.put, hq1, hq2, hq3, Option.isNone, Bool.not_true, Bool.not_false]; (try with_reducible rfl))))); (first | (refine held_skip (i := 4) (a' := ?hA162) (l' := ?hL162) rfl (by kernel_rfl) (by kernel_rfl) (by kernel_rfl) (fun _ _ _ h => h) (by rfl) (by assumption) ?ha162 ?hl162 ?hh162; (case ha162 => (simp only [Act.put, hq1, hq2, hq3, Option.isNone, Bool.not_true, Bool.not_false]; (try with_reducible rfl))); (case hl162 => (simp only [Act.put, hq1, hq2, hq3, Option.isNone, Bool.not_true, Bool.not_false]; (try with_reducible rfl)))) | (refine held_take (i := 4) (v := ?hV162) (a' := ?hA162) (l' := ?hL162) rfl (by kernel_rfl) (by kernel_rfl) (by kernel_rfl) (fun _ _ _ h => h) (by rfl) ?hv162 (by assumption) ?ha162 ?hl162 ?hh162; (case hv162 => (intro w hSw; (try dsimp only at hSw); go_simp; (try simp only [run_eql_slice_nil _ 36 _ _ _ _ Try.underlying36, Result.andThen_ok]); (try with_reducible rfl))); (case ha162 => (simp only [Act.put, hq1, hq2, hq3, Option.isNone, Bool.not_true, Bool.not_false]; (try with_reducible rfl))); (case hl162 => (simp only [Act.put, hq1, hq2, hq3, Option.isNone, Bool.not_true, Bool.not_false]; (try with_reducible rfl))))); (first | (refine held_skip (i := 5) (a' := ?hA163) (l' := ?hL163) rfl (by kernel_rfl) (by kernel_rfl) (by kernel_rfl) (fun _ _ _ h => h) (by rfl) (by assumption) ?ha163 ?hl163 ?hh163; (case ha163 => (simp only [Act.put, hq1, hq2, hq3, Option.isNone, Bool.not_true, Bool.not_false]; (try with_reducible rfl))); (case hl163 => (simp only [Act.put, hq1, hq2, hq3, Option.isNone, Bool.not_true, Bool.not_false]; (try with_reducible rfl)))) | (refine held_take (i := 5) (v := ?hV163) (a' := ?hA163) (l' := ?hL163) rfl (by kernel_rfl) (by kernel_rfl) (by kernel_rfl) (fun _ _ _ h => h) (by rfl) ?hv163 (by assumption) ?ha163 ?hl163 ?hh163; (case hv163 => (intro w hSw; (try dsimp only at hSw); go_simp; (try simp only [run_eql_slice_nil _ 36 _ _ _ _ Try.underlying36, Result.andThen_ok]); (try with_reducible rfl))); (case ha163 => (simp only [Act.put, hq1, hq2, hq3, Option.isNone, Bool.not_true, Bool.not_false]; (try with_reducible rfl))); (case hl163 => (simp only [Act.put, hq1, hq2, hq3, Option.isNone, Bool.not_true, Bool.not_false]; (try with_reducible rfl))))); (first | (refine held_skip (i := 6) (a' := ?hA164) (l' := ?hL164) rfl (by kernel_rfl) (by kernel_rfl) (by kernel_rfl) (fun _ _ _ h => h) (by rfl) (by assumption) ?ha164 ?hl164 ?hh164; (case ha164 => (simp only [Act.put, hq1, hq2, hq3, Option.isNone, Bool.not_true, Bool.not_false]; (try with_reducible rfl))); (case hl164 => (simp only [Act.put, hq1, hq2, hq3, Option.isNone, Bool.not_true, Bool.not_false]; (try with_reducible rfl)))) | (refine held_take (i := 6) (v := ?hV164) (a' := ?hA164) (l' := ?hL164) rfl (by kernel_rfl) (by kernel_rfl) (by kernel_rfl) (fun _ _ _ h => h) (by rfl) ?hv164 (by assumption) ?ha164 ?hl164 ?hh164; (case hv164 => (intro w hSw; (try dsimp only at hSw); go_simp; (try simp only [run_eql_slice_nil _ 36 _ _ _ _ Try.underlying36, Result.andThen_ok]); (try with_reducible rfl))); (case ha164 => (simp only [Act.put, hq1, hq2, hq3, Option.isNone, Bool.not_true, Bool.not_false]; (try with_reducible rfl))); (case hl164 => (simp only [Act.put, hq1, hq2, hq3, Option.isNone, Bool.not_true, Bool.not_false]; (try with_reducible rfl))))); (first | (refine held_skip (i := 7) (a' := ?hA165) (l' := ?hL165) rfl (by kernel_rfl) (by kernel_rfl) (by kernel_rfl) (fun _ _ _ h => h) (by rfl) (by assumption) ?ha165 ?hl165 ?hh165; (case ha165 => (simp only [Act.put, hq1, hq2, hq3, Option.isNone, Bool.not_true, Bool.not_false]; (try with_reducible rfl))); (case hl165 => (simp only [Act.put, hq1, hq2, hq3, Option.isNone, Bool.not_true, Bool.not_false]; (try with_reducible rfl)))) | (refine held_take (i := 7) (v := ?hV165) (a' := ?hA165) (l' := ?hL165) rfl (by kernel_rfl) (by kernel_rfl) (by kernel_rfl) (fun _ _ _ h => h) (by rfl) ?hv165 (by assumption) ?ha165 ?hl165 ?hh165; (case hv165 => (intro w hSw; (try dsimp only at hSw); go_simp; (try simp only [run_eql_slice_nil _ 36 _ _ _ _ Try.underlying36, Result.andThen_ok]); (try with_reducible rfl))); (case ha165 => (simp only [Act.put, hq1, hq2, hq3, Option.isNone, Bool.not_true, Bool.not_false]; (try with_reducible rfl))); (case hl165 => (simp only [Act.put, hq1, hq2, hq3, Option.isNone, Bool.not_true, Bool.not_false]; (try with_reducible rfl))))); (first | (refine held_skip (i := 8) (a' := ?hA166) (l' := ?hL166) rfl (by kernel_rfl) (by kernel_rfl) (by kernel_rfl) (fun _ _ _ h => h) (by rfl) (by assumption) ?ha166 ?hl166 ?hh166; (case ha166 => (simp only [Act.put, hq1, hq2, hq3, Option.isNone, Bool.not_true, Bool.not_false]; (try with_reducible rfl))); (case hl166 => (simp only [Act.put, hq1, hq2, hq3, Option.isNone, Bool.not_true, Bool.not_false]; (try with_reducible rfl)))) | (refine held_take (i := 8) (v := ?hV166) (a' := ?hA166) (l' := ?hL166) rfl (by kernel_rfl) (by kernel_rfl) (by kernel_rfl) (fun _ _ _ h => h) (by rfl) ?hv166 (by assumption) ?ha166 ?hl166 ?hh166; (case hv166 => (intro w hSw; (try dsimp only at hSw); go_simp; (try simp only [run_eql_slice_nil _ 36 _ _ _ _ Try.underlying36, Result.andThen_ok]); (try with_reducible rfl))); (case ha166 => (simp only [Act.put, hq1, hq2, hq3, Option.isNone, Bool.not_true, Bool.not_false]; (try with_reducible rfl))); (case hl166 => (simp only [Act.put, hq1, hq2, hq3, Option.isNone, Bool.not_true, Bool.not_false]; (try with_reducible rfl))))); (first | (refine held_skip (i := 9) (a' := ?hA167) (l' := ?hL167) rfl (by kernel_rfl) (by kernel_rfl) (by kernel_rfl) (fun _ _ _ h => h) (by rfl) (by assumption) ?ha167 ?hl167 ?hh167; (case ha167 => (simp only [Act.put, hq1, hq2, hq3, Option.isNone, Bool.not_true, Bool.not_false]; (try with_reducible rfl))); (case hl167 => (simp only [Act.put, hq1, hq2, hq3, Option.isNone, Bool.not_true, Bool.not_false]; (try with_reducible rfl)))) | (refine held_take (i := 9) (v := ?hV167) (a' := ?hA167) (l' := ?hL167) rfl (by kernel_rfl) (by kernel_rfl) (by kernel_rfl) (fun _ _ _ h => h) (by rfl) ?hv167 (by assumption) ?ha167 ?hl167 ?hh167; (case hv167 => (intro w hSw; (try dsimp only at hSw); go_simp; (try simp only [run_eql_slice_nil _ 36 _ _ _ _ Try.underlying36, Result.andThen_ok]); (try with_reducible rfl))); (case ha167 => (simp only [Act.put, hq1, hq2, hq3, Option.isNone, Bool.not_true, Bool.not_false]; (try with_reducible rfl))); (case hl167 => (simp only [Act.put, hq1, hq2, hq3, Option.isNone, Bool.not_true, Bool.not_false]; (try with_reducible rfl))))))
      refine wpAnyH_done (by kernel_rfl) ?_ _
      clear hHeld
      go_wp2_with fail
      go_ret2
      have hFr : Fr w W2.drew := HF2.out.trans (Below.refl _ _).drew
      exact .inr ⟨p.keep, i, x, g, c, Ac, nc, cc, vS, vT, T, E2.out, rfl, hFr.chg, (H.out.fr hFr).blk, HFO.out.fr (Below.refl _ _).drew⟩
    · have E2 := Lib.hid (E1.out.trans (if_pos h3))
      have hq := fun (V : World) => eqHd x.h h V
      rw [decide_eq_false h3] at hq
      clear E1 h3
      go_upto_region 5 with fail
      refine held_begin (n := 10) (bs := #[false, false, false, false, false, false, false, false, false, false]) rfl rfl (by kernel_rfl) (S := fun w' => w'.cell? ⟨pb, 1, none⟩ = some (.slice (some ⟨g, 0, none⟩) n c) ∧ w'.cell? ⟨g, i * 16, none⟩ = some (.int .i64 x.h.frm) ∧ w'.cell? ⟨g, i * 16 + 1, none⟩ = some (.int .i64 x.h.seq) ∧ w'.cell? ⟨g, i * 16 + 2, none⟩ = some (.int .i64 x.h.to) ∧ w'.cell? ⟨g, i * 16 + 3, none⟩ = some (.int .i64 x.h.till) ∧ w'.cell? ⟨g, i * 16 + 4, none⟩ = some (.int .i64 x.h.bytes) ∧ w'.cell? ⟨g, i * 16 + 5, none⟩ = some (.int .i64 x.h.block) ∧ w'.cell? ⟨q, 0, none⟩ = some (.int .i64 h.frm) ∧ w'.cell? ⟨q, 1, none⟩ = some (.int .i64 h.seq) ∧ w'.cell? ⟨q, 2, none⟩ = some (.int .i64 h.to) ∧ w'.cell? ⟨q, 3, none⟩ = some (.int .i64 h.till) ∧ w'.cell? ⟨q, 4, none⟩ = some (.int .i64 h.bytes) ∧ w'.cell? ⟨q, 5, none⟩ = some (.int .i64 h.block)) (hS5.out _ (Below.refl _ _).drew) (fun hHeld => ?_)
      ((first | (refine held_skip (i := 0) (a' := ?hA168) (l' := ?hL168) rfl (by kernel_rfl) (by kernel_rfl) (by kernel_rfl) (fun _ _ _ h => h) (by rfl) (by assumption) ?ha168 ?hl168 ?hh168; (case ha168 => (simp only [Act.put, hq1, hq2, hq3, Option.isNone, Bool.not_true, Bool.not_false]; (try with_reducible rfl))); (case hl168 => (simp only [Act.put, hq1, hq2, hq3, Option.isNone, Bool.not_true, Bool.not_false]; (try with_reducible rfl)))) | (refine held_take (i := 0) (v := ?hV168) (a' := ?hA168) (l' := ?hL168) rfl (by kernel_rfl) (by kernel_rfl) (by kernel_rfl) (fun _ _ _ h => h) (by rfl) ?hv168 (by assumption) ?ha168 ?hl168 ?hh168; (case hv168 => (intro w hSw; (try dsimp only at hSw); go_simp; (try simp only [run_eql_slice_nil _ 36 _ _ _ _ Try.underlying36, Result.andThen_ok]); (try with_reducible rfl))); (case ha168 => (simp only [Act.put, hq1, hq2, hq3, Option.isNone, Bool.not_true, Bool.not_false]; (try with_reducible rfl))); (case hl168 => (simp only [Act.put, hq1, hq2, hq3, Option.isNone, Bool.not_true, Bool.not_false]; (try with_reducible rfl))))); (first | (refine held_skip (i := 1) (a' := ?hA169) (l' := ?hL169) rfl (by kernel_rfl) (by kernel_rfl) (by kernel_rfl) (fun _ _ _ h => h) (by rfl) (by assumption) ?ha169 ?hl169 ?hh169; (case ha169 => (simp only [Act.put, hq1, hq2, hq3, Option.isNone, Bool.not_true, Bool.not_false]; (try with_reducible rfl))); (case hl169 => (simp only [Act.put, hq1, hq2, hq3, Option.isNone, Bool.not_true, Bool.not_false]; (try with_reducible rfl)))) | (refine held_take (i := 1) (v := ?hV169) (a' := ?hA169) (l' := ?hL169) rfl (by kernel_rfl) (by kernel_rfl) (by kernel_rfl) (fun _ _ _ h => h) (by rfl) ?hv169 (by assumption) ?ha169 ?hl169 ?hh169; (case hv169 => (intro w hSw; (try dsimp only at hSw); go_simp; (try simp only [run_eql_slice_nil _ 36 _ _ _ _ Try.underlying36, Result.andThen_ok]); (try with_reducible rfl))); (case ha169 => (simp only [Act.put, hq1, hq2, hq3, Option.isNone, Bool.not_true, Bool.not_false]; (try with_reducible rfl))); (case hl169 => (simp only [Act.put, hq1, hq2, hq3, Option.isNone, Bool.not_true, Bool.not_false]; (try with_reducible rfl))))); (first | (refine held_skip (i := 2) (a' := ?hA170) (l' := ?hL170) rfl (by kernel_rfl) (by kernel_rfl) (by kernel_rfl) (fun _ _ _ h => h) (by rfl) (by assumption) ?ha170 ?hl170 ?hh170; (case ha170 => (simp only [Act.put, hq1, hq2, hq3, Option.isNone, Bool.not_true, Bool.not_false]; (try with_reducible rfl))); (case hl170 => (simp only [Act.put, hq1, hq2, hq3, Option.isNone, Bool.not_true, Bool.not_false]; (try with_reducible rfl)))) | (refine held_take (i := 2) (v := ?hV170) (a' := ?hA170) (l' := ?hL170) rfl (by kernel_rfl) (by kernel_rfl) (by kernel_rfl) (fun _ _ _ h => h) (by rfl) ?hv170 (by assumption) ?ha170 ?hl170 ?hh170; (case hv170 => (intro w hSw; (try dsimp only at hSw); go_simp; (try simp only [run_eql_slice_nil _ 36 _ _ _ _ Try.underlying36, Result.andThen_ok]); (try with_reducible rfl))); (case ha170 => (simp only [Act.put, hq1, hq2, hq3, Option.isNone, Bool.not_true, Bool.not_false]; (try with_reducible rfl))); (case hl170 => (simp only [Act.put, hq1, hq2, hq3, Option.isNone, Bool.not_true, Bool.not_false]; (try with_reducible rfl))))); (first | (refine held_skip (i := 3) (a' := ?hA171) (l' := ?hL171) rfl (by kernel_rfl) (by kernel_rfl) (by kernel_rfl) (fun _ _ _ h => h) (by rfl) (by assumption) ?ha171 ?hl171 ?hh171; (case ha171 => (simp only [Act.put, hq1, hq2, hq3, Option.isNone, Bool.not_true, Bool.not_false]; (try with_reducible rfl))); (case hl171 => (simp only [Act.put, hq1, hq2, hq3, Option.isNone, Bool.not_true, Bool.not_false]; (try with_reducible rfl)))) | (refine held_take (i := 3) (v := ?hV171) (a' := ?hA171) (l' := ?hL171) rfl (by kernel_rfl) (by kernel_rfl) (by kernel_rfl) (fun _ _ _ h => h) (by rfl) ?hv171 (by assumption) ?ha171 ?hl171 ?hh171; (case hv171 => (intro w hSw; (try dsimp only at hSw); go_simp; (try simp only [run_eql_slice_nil _ 36 _ _ _ _ Try.underlying36, Result.andThen_ok]); (try with_reducible rfl))); (case ha171 => (simp only [Act.put, hq1, hq2, hq3, Option.isNone, Bool.not_true, Bool.not_false]; (try with_reducible rfl))); (case hl171 => (simp only [Act.put, hq1, hq2, hq3, Option.isNone, Bool.not_true, Bool.not_false]; (try with_reducible rfl))))); (first | (refine held_skip (i := 4) (a' := ?hA172) (l' := ?hL172) rfl (by kernel_rfl) (by kernel_rfl) (by kernel_rfl) (fun _ _ _ h => h) (by rfl) (by assumption) ?ha172 ?hl172 ?hh172; (case ha172 => (simp only [Act.put, hq1, hq2, hq3, Option.isNone, Bool.not_true, Bool.not_false]; (try with_reducible rfl))); (case hl172 => (simp only [Act.put, hq1, hq2, hq3, Option.isNone, Bool.not_true, Bool.not_false]; (try with_reducible rfl)))) | (refine held_take (i := 4) (v := ?hV172) (a' := ?hA172) (l' := ?hL172) rfl (by kernel_rfl) (by kernel_rfl) (by kernel_rfl) (fun _ _ _ h => h) (by rfl) ?hv172 (by assumption) ?ha172 ?hl172 ?hh172; (case hv172 => (intro w hSw; (try dsimp only at hSw); go_simp; (try simp only [run_eql_slice_nil _ 36 _ _ _ _ Try.underlying36, Result.andThen_ok]); (try with_reducible rfl))); (case ha172 => (simp only [Act.put, hq1, hq2, hq3, Option.isNone, Bool.not_true, Bool.not_false]; (try with_reducible rfl))); (case hl172 => (simp only [Act.put, hq1, hq2, hq3, Option.isNone, Bool.not_true, Bool.not_false]; (try with_reducible rfl))))); (first | (refine held_skip (i := 5) (a' := ?hA173) (l' := ?hL173) rfl (by kernel_rfl) (by kernel_rfl) (by kernel_rfl) (fun _ _ _ h => h) (by rfl) (by assumption) ?ha173 ?hl173 ?hh173; (case ha173 => (simp only [Act.put, hq1, hq2, hq3, Option.isNone, Bool.not_true, Bool.not_false]; (try with_reducible rfl))); (case hl173 => (simp only [Act.put, hq1, hq2, hq3, Option.isNone, Bool.not_true, Bool.not_false]; (try with_reducible rfl)))) | (refine held_take (i := 5) (v := ?hV173) (a' := ?hA173) (l' := ?hL173) rfl (by kernel_rfl) (by kernel_rfl) (by kernel_rfl) (fun _ _ _ h => h) (by rfl) ?hv173 (by assumption) ?ha173 ?hl173 ?hh173; (case hv173 => (intro w hSw; (try dsimp only at hSw); go_simp; (try simp only [run_eql_slice_nil _ 36 _ _ _ _ Try.underlying36, Result.andThen_ok]); (try with_reducible rfl))); (case ha173 => (simp only [Act.put, hq1, hq2, hq3, Option.isNone, Bool.not_true, Bool.not_false]; (try with_reducible rfl))); (case hl173 => (simp only [Act.put, hq1, hq2, hq3, Option.isNone, Bool.not_true, Bool.not_false]; (try with_reducible rfl))))); (first | (refine held_skip (i := 6) (a' := ?hA174) (l' := ?hL174) rfl (by kernel_rfl) (by kernel_rfl) (by kernel_rfl) (fun _ _ _ h => h) (by rfl) (by assumption) ?ha174 ?hl174 ?hh174; (case ha174 => (simp only [Act.put, hq1, hq2, hq3, Option.isNone, Bool.not_true, Bool.not_false]; (try with_reducible rfl))); (case hl174 => (simp only [Act.put, hq1, hq2, hq3, Option.isNone, Bool.not_true, Bool.not_false]; (try with_reducible rfl)))) | (refine held_take (i := 6) (v := ?hV174) (a' := ?hA174) (l' := ?hL174) rfl (by kernel_rfl) (by kernel_rfl) (by kernel_rfl) (fun _ _ _ h => h) (by rfl) ?hv174 (by assumption) ?ha174 ?hl174 ?hh174; (case hv174 => (intro w hSw; (try dsimp only at hSw); go_simp; (try simp only [run_eql_slice_nil _ 36 _ _ _ _ Try.underlying36, Result.andThen_ok]); (try with_reducible rfl))); (case ha174 => (simp only [Act.put, hq1, hq2, hq3, Option.isNone, Bool.not_true, Bool.not_false]; (try with_reducible rfl))); (case hl174 => (simp only [Act.put, hq1, hq2, hq3, Option.isNone, Bool.not_true, Bool.not_false]; (try with_reducible rfl))))); (first | (refine held_skip (i := 7) (a' := ?hA175) (l' := ?hL175) rfl (by kernel_rfl) (by kernel_rfl) (by kernel_rfl) (fun _ _ _ h => h) (by rfl) (by assumption) ?ha175 ?hl175 ?hh175; (case ha175 => (simp only [Act.put, hq1, hq2, hq3, Option.isNone, Bool.not_true, Bool.not_false]; (try with_reducible rfl))); (case hl175 => (simp only [Act.put, hq1, hq2, hq3, Option.isNone, Bool.not_true, Bool.not_false]; (try with_reducible rfl)))) | (refine held_take (i := 7) (v := ?hV175) (a' := ?hA175) (l' := ?hL175) rfl (by kernel_rfl) (by kernel_rfl) (by kernel_rfl) (fun _ _ _ h => h) (by rfl) ?hv175 (by assumption) ?ha175 ?hl175 ?hh175; (case hv175 => (intro w hSw; (try dsimp only at hSw); go_simp; (try simp only [run_eql_slice_nil _ 36 _ _ _ _ Try.underlying36, Result.andThen_ok]); (try with_reducible rfl))); (case ha175 => (simp only [Act.put, hq1, hq2, hq3, Option.isNone, Bool.not_true, Bool.not_false]; (try with_reducible rfl))); (case hl175 => (simp only [Act.put, hq1, hq2, hq3, Option.isNone, Bool.not_true, Bool.not_false]; (try with_reducible rfl))))); (first | (refine held_skip (i := 8) (a' := ?hA176) (l' := ?hL176) rfl (by kernel_rfl) (by kernel_rfl) (by kernel_rfl) (fun _ _ _ h => h) (by rfl) (by assumption) ?ha176 ?hl176 ?hh176; (case ha176 => (simp only [Act.put, hq1, hq2, hq3, Option.isNone, Bool.not_true, Bool.not_false]; (try with_reducible rfl))); (case hl176 => (simp only [Act.put, hq1, hq2, hq3, Option.isNone, Bool.not_true, Bool.not_false]; (try with_reducible rfl)))) | (refine held_take (i := 8) (v := ?hV176) (a' := ?hA176) (l' := ?hL176) rfl (by kernel_rfl) (by kernel_rfl) (by kernel_rfl) (fun _ _ _ h => h) (by rfl) ?hv176 (by assumption) ?ha176 ?hl176 ?hh176; (case hv176 => (intro w hSw; (try dsimp only at hSw); go_simp; (try simp only [run_eql_slice_nil _ 36 _ _ _ _ Try.underlying36, Result.andThen_ok]); (try with_reducible rfl))); (case ha176 => (simp only [Act.put, hq1, hq2, hq3, Option.isNone, Bool.not_true, Bool.not_false]; (try with_reducible rfl))); (case hl176 => (simp only [Act.put, hq1, hq2, hq3, Option.isNone, Bool.not_true, Bool.not_false]; (try with_reducible rfl))))); (first | (refine held_skip (i := 9) (a' := ?hA177) (l' := ?hL177) rfl (by kernel_rfl) (by kernel_rfl) (by kernel_rfl) (fun _ _ _ h => h) (by rfl) (by assumption) ?ha177 ?hl177 ?hh177; (case ha177 => (simp only [Act.put, hq1, hq2, hq3, Option.isNone, Bool.not_true, Bool.not_false]; (try with_reducible rfl))); (case hl177 => (simp only [Act.put, hq1, hq2, hq3, Option.isNone, Bool.not_true, Bool.not_false]; (try with_reducible rfl)))) | (refine held_take (i := 9) (v := ?hV177) (a' := ?hA177) (l' := ?hL177) rfl (by kernel_rfl) (by kernel_rfl) (by kernel_rfl) (fun _ _ _ h => h) (by rfl) ?hv177 (by assumption) ?ha177 ?hl177 ?hh177; (case hv177 => (intro w hSw; (try dsimp only at hSw); go_simp; (try simp only [run_eql_slice_nil _ 36 _ _ _ _ Try.underlying36, Result.andThen_ok]); (try with_reducible rfl))); (case ha177 => (simp only [Act.put, hq1, hq2, hq3, Option.isNone, Bool.not_true, Bool.not_false]; (try with_reducible rfl))); (case hl177 => (simp only [Act.put, hq1, hq2, hq3, Option.isNone, Bool.not_true, Bool.not_false]; (try with_reducible rfl))))))
      refine wpAnyH_done (by kernel_rfl) ?_ _
      clear hHeld
      go_wp2_with fail
      go_ret2
      exact FIN.out _ _ _ (by (repeat' (first | exact Below.refl _ _ | refine below_drewN ?_ _ | refine Below.drew ?_ | refine frA ?_ _ | refine Fr.trans ?_ HF2.out))) (by decide) E2.out
  | none =>
    simp only [] at hkf2
    subst hkf2
    dsimp only at E1
    by_cases h2 : h.frm = p.me
    · have E2 := Lib.hid (E1.out.trans (if_pos h2))
      have t2 : (h.frm == p.me) = true := by simp [h2]
      clear E1 h2
      go_upto_region 8 with fail
      go_quiet (fail)
      go_wp2_with fail
      go_ret2
      exact FIN.out _ _ _ (by (repeat' (first | exact Below.refl _ _ | refine below_drewN ?_ _ | refine Below.drew ?_ | refine frA ?_ _ | refine Fr.trans ?_ HF2.out))) (by decide) E2.out
    · have E2 := Lib.hid (E1.out.trans (if_neg h2))
      have t2 : (h.frm == p.me) = false := by simp [h2]
      clear E1 h2
      go_upto_region 8 with fail
      go_quiet (fail)
      go_upto_region 10 with fail
      obtain ⟨W4, hW4⟩ : ∃ W4, W4 = W2.drewN nq := ⟨_, rfl⟩
      have HF24 : Hid (Fr W2 W4) := by rw [hW4]; exact below_drewN (Below.refl _ _) _
      rw [← hW4]
      have HF4 : Hid (Fr w W4) := HF2.out.trans HF24.out
      have HQ4 := Lib.hid (blk_go HQ2.out HF24.out)
      clear hW4 HF24 HF2 HQ2 t2 bp0 bp1 bp2 bp3 bx0 bx1 bx2 bx3 bx4 bx5
      obtain ⟨W2, rfl⟩ : ∃ W2, W2 = W4 := ⟨_, rfl⟩
      have HF2 := HF4
      have HQ2 := HQ4
      have hbx := (H.out.fr HF2.out).blk
      rw [← HN.out] at hbx
      have hqx := HQ2.out
      (obtain ⟨bp0, bp1, bp2, bp3⟩ := box4_ hbx)
      (obtain ⟨bx0, bx1, bx2, bx3, bx4, bx5⟩ := box6_ hqx)
      clear hbx hqx
      rw [← HN.out] at h12 E2
      by_cases h6 : n = 12
      · have E3 := Lib.hid (E2.out.trans (if_pos h6))
        have t6 : ((n : Int) == 12) = true := by simp [h6]
        clear E2 h6
        go_wp2_with fail
        go_ret2
        exact FIN.out _ _ _ HF2.out (by decide) E3.out
      · have E6 := Lib.hid (E2.out.trans (if_neg h6))
        have t6 : ((n : Int) == 12) = false := by simp; omega
        have h11 : n ≤ 11 := by omega
        clear E2 h6 h12 FIN
        obtain ⟨A9, c9, e9, ⟨hc9, hm9⟩, hsl⟩ := (((H.out.fr HF2.out).plM.own).ofHi sKp).slC sKp (by decide)
        injection e9 with e9 _ e10
        subst e9 e10
        rw [← HN.out] at hsl hc9
        have HSL := Lib.hid hsl
        obtain ⟨pa, hpa⟩ : ∃ pa, pa = placeAt p.keep h := ⟨_, rfl⟩
        have HPA : Hid (pa = 0 + ((p.keep.drop 0).takeWhile fun y => aheadB y.h h).length) := by rw [Hid, List.drop_zero, hpa, Nat.zero_add]; rfl
        (have Hpa := Lib.hid hpa; clear hpa)
        clear hsl
        go_wp2_with fail
        go_loopw [7] (fun s7 wr => ∃ k : Nat, k ≤ n ∧ s7 = .int .i64 k ∧ Hid (pa = k + ((p.keep.drop k).takeWhile fun y => aheadB y.h h).length) ∧ Hid (Fr W2 wr)) (fun i _ => n - (intOf i).toNat)
        case atStart => exact ⟨0, Nat.zero_le _, rfl, HPA, Below.refl _ _⟩
        case round =>
          obtain ⟨k, hk, rfl, HS, HF⟩ := hrel
          have hbx := (H.out.fr (HF2.out.trans HF.out)).blk
          rw [← HN.out] at hbx
          have hqx := blk_go HQ2.out HF.out
          clear bp0 bp1 bp2 bp3 bx0 bx1 bx2 bx3 bx4 bx5
          (obtain ⟨bp0, bp1, bp2, bp3⟩ := box4_ hbx)
          (obtain ⟨bx0, bx1, bx2, bx3, bx4, bx5⟩ := box6_ hqx)
          clear hbx hqx bp0 bp2 bp3
          by_cases hlt : k < n
          · obtain ⟨ad, hAd, hE⟩ := (HSL.out.go sKp HF.out).els (by omega)
            subst hAd
            obtain ⟨y, hy, hr⟩ := hE.row hlt
            obtain ⟨A1, n1', c1, A2, n2, c2, A3, n3, c3, ⟨m0, m1, m2, m3, m4, m5, _⟩, _⟩ := eKp_at hr
            have hSC : Hid (∀ w', Fr wr w' → w'.cell? ⟨pb, 1, none⟩ = some (.slice (some ad) n c) ∧ w'.cell? (ad.add (k * 16)) = some (.int .i64 y.h.frm) ∧ w'.cell? ⟨(ad.add (k * 16)).block, (ad.add (k * 16)).off + 1, none⟩ = some (.int .i64 y.h.seq) ∧ w'.cell? ⟨(ad.add (k * 16)).block, (ad.add (k * 16)).off + 2, none⟩ = some (.int .i64 y.h.to) ∧ w'.cell? ⟨(ad.add (k * 16)).block, (ad.add (k * 16)).off + 3, none⟩ = some (.int .i64 y.h.till) ∧ w'.cell? ⟨(ad.add (k * 16)).block, (ad.add (k * 16)).off + 4, none⟩ = some (.int .i64 y.h.bytes) ∧ w'.cell? ⟨(ad.add (k * 16)).block, (ad.add (k * 16)).off + 5, none⟩ = some (.int .i64 y.h.block) ∧ w'.cell? ⟨q, 0, none⟩ = some (.int .i64 h.frm) ∧ w'.cell? ⟨q, 1, none⟩ = some (.int .i64 h.seq) ∧ w'.cell? ⟨q, 2, none⟩ = some (.int .i64 h.to) ∧ w'.cell? ⟨q, 3, none⟩ = some (.int .i64 h.till) ∧ w'.cell? ⟨q, 4, none⟩ = some (.int .i64 h.bytes) ∧ w'.cell? ⟨q, 5, none⟩ = some (.int .i64 h.block)) := fun w' hf => ⟨(hf.cell (World.block_lt_of_cell? wr _ bp1)).trans bp1, (hf.cell (World.block_lt_of_cell? wr _ m0)).trans m0, (hf.cell (World.block_lt_of_cell? wr _ m1)).trans m1, (hf.cell (World.block_lt_of_cell? wr _ m2)).trans m2, (hf.cell (World.block_lt_of_cell? wr _ m3)).trans m3, (hf.cell (World.block_lt_of_cell? wr _ m4)).trans m4, (hf.cell (World.block_lt_of_cell? wr _ m5)).trans m5, (hf.cell (World.block_lt_of_cell? wr _ bx0)).trans bx0, (hf.cell (World.block_lt_of_cell? wr _ bx1)).trans bx1, (hf.cell (World.block_lt_of_cell? wr _ bx2)).trans bx2, (hf.cell (World.block_lt_of_cell? wr _ bx3)).trans bx3, (hf.cell (World.block_lt_of_cell? wr _ bx4)).trans bx4, (hf.cell (World.block_lt_of_cell? wr _ bx5)).trans bx5⟩
            obtain ⟨ab, hab⟩ : ∃ ab, ab = aheadB y.h h := ⟨_, rfl⟩
            have AH : Hid (∀ W, Calls Try.prog 16 #[.agg #[.int .i64 y.h.frm, .int .i64 y.h.seq, .int .i64 y.h.to, .int .i64 y.h.till, .int .i64 y.h.bytes, .int .i64 y.h.block], .agg #[.int .i64 h.frm, .int .i64 h.seq, .int .i64 h.to, .int .i64 h.till, .int .i64 h.bytes, .int .i64 h.block]] W fun e w' => e = .returned (.bool ab) ∧ Fr W w') := fun W => by rw [hab]; exact ahead_any W _ _
            have hlt2 : (k : Int) < (n : Int) := by omega
            have HYY := Lib.hid hy
            have HAB := Lib.hid hab
            clear hE hy hr hab m0 m1 m2 m3 m4 m5 bp1 bx0 bx1 bx2 bx3 bx4 bx5
            go_upto_region 13 with fail
            refine held_begin (n := 19) (bs := #[false, false, false, false, false, false, false, false, false, false, false, false, false, false, false, false, false, false, false]) rfl rfl (by kernel_rfl) (S := fun w' => w'.cell? ⟨pb, 1, none⟩ = some (.slice (some ad) n c) ∧ w'.cell? (ad.add (k * 16)) = some (.int .i64 y.h.frm) ∧ w'.cell? ⟨(ad.add (k * 16)).block, (ad.add (k * 16)).off + 1, none⟩ = some (.int .i64 y.h.seq) ∧ w'.cell? ⟨(ad.add (k * 16)).block, (ad.add (k * 16)).off + 2, none⟩ = some (.int .i64 y.h.to) ∧ w'.cell? ⟨(ad.add (k * 16)).block, (ad.add (k * 16)).off + 3, none⟩ = some (.int .i64 y.h.till) ∧ w'.cell? ⟨(ad.add (k * 16)).block, (ad.add (k * 16)).off + 4, none⟩ = some (.int .i64 y.h.bytes) ∧ w'.cell? ⟨(ad.add (k * 16)).block, (ad.add (k * 16)).off + 5, none⟩ = some (.int .i64 y.h.block) ∧ w'.cell? ⟨q, 0, none⟩ = some (.int .i64 h.frm) ∧ w'.cell? ⟨q, 1, none⟩ = some (.int .i64 h.seq) ∧ w'.cell? ⟨q, 2, none⟩ = some (.int .i64 h.to) ∧ w'.cell? ⟨q, 3, none⟩ = some (.int .i64 h.till) ∧ w'.cell? ⟨q, 4, none⟩ = some (.int .i64 h.bytes) ∧ w'.cell? ⟨q, 5, none⟩ = some (.int .i64 h.block)) (hSC.out _ (Below.refl _ _).drew) (fun hHeld => ?_)
            ((first | (refine held_skip (i := 0) (a' := ?hA178) (l' := ?hL178) rfl (by kernel_rfl) (by kernel_rfl) (by kernel_rfl) (fun _ _ _ h => h) (by rfl) (by assumption) ?ha178 ?hl178 ?hh178; (case ha178 => (simp only [Act.put, hq1, hq2, hq3, Option.isNone, Bool.not_true, Bool.not_false]; (try with_reducible rfl))); (case hl178 => (simp only [Act.put, hq1, hq2, hq3, Option.isNone, Bool.not_true, Bool.not_false]; (try with_reducible rfl)))) | (refine held_take (i := 0) (v := ?hV178) (a' := ?hA178) (l' := ?hL178) rfl (by kernel_rfl) (by kernel_rfl) (by kernel_rfl) (fun _ _ _ h => h) (by rfl) ?hv178 (by assumption) ?ha178 ?hl178 ?hh178; (case hv178 => (intro w hSw; (try dsimp only at hSw); go_simp; (try simp only [run_eql_slice_nil _ 36 _ _ _ _ Try.underlying36, Result.andThen_ok]); (try with_reducible rfl))); (case ha178 => (simp only [Act.put, hq1, hq2, hq3, Option.isNone, Bool.not_true, Bool.not_false]; (try with_reducible rfl))); (case hl178 => (simp only [Act.put, hq1, hq2, hq3, Option.isNone, Bool.not_true, Bool.not_false]; (try with_reducible rfl))))); (first | (refine held_skip (i := 1) (a' := ?hA179) (l' := ?hL179) rfl (by kernel_rfl) (by kernel_rfl) (by kernel_rfl) (fun _ _ _ h => h) (by rfl) (by assumption) ?ha179 ?hl179 ?hh179; (case ha179 => (simp only [Act.put, hq1, hq2, hq3, Option.isNone, Bool.not_true, Bool.not_false]; (try with_reducible rfl))); (case hl179 => (simp only [Act.put, hq1, hq2, hq3, Option.isNone, Bool.not_true, Bool.not_false]; (try with_reducible rfl)))) | (refine held_take (i := 1) (v := ?hV179) (a' := ?hA179) (l' := ?hL179) rfl (by kernel_rfl) (by kernel_rfl) (by kernel_rfl) (fun _ _ _ h => h) (by rfl) ?hv179 (by assumption) ?ha179 ?hl179 ?hh179; (case hv179 => (intro w hSw; (try dsimp only at hSw); go_simp; (try simp only [run_eql_slice_nil _ 36 _ _ _ _ Try.underlying36, Result.andThen_ok]); (try with_reducible rfl))); (case ha179 => (simp only [Act.put, hq1, hq2, hq3, Option.isNone, Bool.not_true, Bool.not_false]; (try with_reducible rfl))); (case hl179 => (simp only [Act.put, hq1, hq2, hq3, Option.isNone, Bool.not_true, Bool.not_false]; (try with_reducible rfl))))); (first | (refine held_skip (i := 2) (a' := ?hA180) (l' := ?hL180) rfl (by kernel_rfl) (by kernel_rfl) (by kernel_rfl) (fun _ _ _ h => h) (by rfl) (by assumption) ?ha180 ?hl180 ?hh180; (case ha180 => (simp only [Act.put, hq1, hq2, hq3, Option.isNone, Bool.not_true, Bool.not_false]; (try with_reducible rfl))); (case hl180 => (simp only [Act.put, hq1, hq2, hq3, Option.isNone, Bool.not_true, Bool.not_false]; (try with_reducible rfl)))) | (refine held_take (i := 2) (v := ?hV180) (a' := ?hA180) (l' := ?hL180) rfl (by kernel_rfl) (by kernel_rfl) (by kernel_rfl) (fun _ _ _ h => h) (by rfl) ?hv180 (by assumption) ?ha180 ?hl180 ?hh180; (case hv180 => (intro w hSw; (try dsimp only at hSw); go_simp; (try simp only [run_eql_slice_nil _ 36 _ _ _ _ Try.underlying36, Result.andThen_ok]); (try with_reducible rfl))); (case ha180 => (simp only [Act.put, hq1, hq2, hq3, Option.isNone, Bool.not_true, Bool.not_false]; (try with_reducible rfl))); (case hl180 => (simp only [Act.put, hq1, hq2, hq3, Option.isNone, Bool.not_true, Bool.not_false]; (try with_reducible rfl))))); (first | (refine held_skip (i := 3) (a' := ?hA181) (l' := ?hL181) rfl (by kernel_rfl) (by kernel_rfl) (by kernel_rfl) (fun _ _ _ h => h) (by rfl) (by assumption) ?ha181 ?hl181 ?hh181; (case ha181 => (simp only [Act.put, hq1, hq2, hq3, Option.isNone, Bool.not_true, Bool.not_false]; (try with_reducible rfl))); (case hl181 => (simp only [Act.put, hq1, hq2, hq3, Option.isNone, Bool.not_true, Bool.not_false]; (try with_reducible rfl)))) | (refine held_take (i := 3) (v := ?hV181) (a' := ?hA181) (l' := ?hL181) rfl (by kernel_rfl) (by kernel_rfl) (by kernel_rfl) (fun _ _ _ h => h) (by rfl) ?hv181 (by assumption) ?ha181 ?hl181 ?hh181; (case hv181 => (intro w hSw; (try dsimp only at hSw); go_simp; (try simp only [run_eql_slice_nil _ 36 _ _ _ _ Try.underlying36, Result.andThen_ok]); (try with_reducible rfl))); (case ha181 => (simp only [Act.put, hq1, hq2, hq3, Option.isNone, Bool.not_true, Bool.not_false]; (try with_reducible rfl))); (case hl181 => (simp only [Act.put, hq1, hq2, hq3, Option.isNone, Bool.not_true, Bool.not_false]; (try with_reducible rfl))))); (first | (refine held_skip (i := 4) (a' := ?hA182) (l' := ?hL182) rfl (by kernel_rfl) (by kernel_rfl) (by kernel_rfl) (fun _ _ _ h => h) (by rfl) (by assumption) ?ha182 ?hl182 ?hh182; (case ha182 => (simp only [Act.put, hq1, hq2, hq3, Option.isNone, Bool.not_true, Bool.not_false]; (try with_reducible rfl))); (case hl182 => (simp only [Act.put, hq1, hq2, hq3, Option.isNone, Bool.not_true, Bool.not_false]; (try with_reducible rfl)))) | (refine held_take (i := 4) (v := ?hV182) (a' := ?hA182) (l' := ?hL182) rfl (by kernel_rfl) (by kernel_rfl) (by kernel_rfl) (fun _ _ _ h => h) (by rfl) ?hv182 (by assumption) ?ha182 ?hl182 ?hh182; (case hv182 => (intro w hSw; (try dsimp only at hSw); go_simp; (try simp only [run_eql_slice_nil _ 36 _ _ _ _ Try.underlying36, Result.andThen_ok]); (try with_reducible rfl))); (case ha182 => (simp only [Act.put, hq1, hq2, hq3, Option.isNone, Bool.not_true, Bool.not_false]; (try with_reducible rfl))); (case hl182 => (simp only [Act.put, hq1, hq2, hq3, Option.isNone, Bool.not_true, Bool.not_false]; (try with_reducible rfl))))); (first | (refine held_skip (i := 5) (a' := ?hA183) (l' := ?hL183) rfl (by kernel_rfl) (by kernel_rfl) (by kernel_rfl) (fun _ _ _ h => h) (by rfl) (by assumption) ?ha183 ?hl183 ?hh183; (case ha183 => (simp only [Act.put, hq1, hq2, hq3, Option.isNone, Bool.not_true, Bool.not_false]; (try with_reducible rfl))); (case hl183 => (simp only [Act.put, hq1, hq2, hq3, Option.isNone, Bool.not_true, Bool.not_false]; (try with_reducible rfl)))) | (refine held_take (i := 5) (v := ?hV183) (a' := ?hA183) (l' := ?hL183) rfl (by kernel_rfl) (by kernel_rfl) (by kernel_rfl) (fun _ _ _ h => h) (by rfl) ?hv183 (by assumption) ?ha183 ?hl183 ?hh183; (case hv183 => (intro w hSw; (try dsimp only at hSw); go_simp; (try simp only [run_eql_slice_nil _ 36 _ _ _ _ Try.underlying36, Result.andThen_ok]); (try with_reducible rfl))); (case ha183 => (simp only [Act.put, hq1, hq2, hq3, Option.isNone, Bool.not_true, Bool.not_false]; (try with_reducible rfl))); (case hl183 => (simp only [Act.put, hq1, hq2, hq3, Option.isNone, Bool.not_true, Bool.not_false]; (try with_reducible rfl))))); (first | (refine held_skip (i := 6) (a' := ?hA184) (l' := ?hL184) rfl (by kernel_rfl) (by kernel_rfl) (by kernel_rfl) (fun _ _ _ h => h) (by rfl) (by assumption) ?ha184 ?hl184 ?hh184; (case ha184 => (simp only [Act.put, hq1, hq2, hq3, Option.isNone, Bool.not_true, Bool.not_false]; (try with_reducible rfl))); (case hl184 => (simp only [Act.put, hq1, hq2, hq3, Option.isNone, Bool.not_true, Bool.not_false]; (try with_reducible rfl)))) | (refine held_take (i := 6) (v := ?hV184) (a' := ?hA184) (l' := ?hL184) rfl (by kernel_rfl) (by kernel_rfl) (by kernel_rfl) (fun _ _ _ h => h) (by rfl) ?hv184 (by assumption) ?ha184 ?hl184 ?hh184; (case hv184 => (intro w hSw; (try dsimp only at hSw); go_simp; (try simp only [run_eql_slice_nil _ 36 _ _ _ _ Try.underlying36, Result.andThen_ok]); (try with_reducible rfl))); (case ha184 => (simp only [Act.put, hq1, hq2, hq3, Option.isNone, Bool.not_true, Bool.not_false]; (try with_reducible rfl))); (case hl184 => (simp only [Act.put, hq1, hq2, hq3, Option.isNone, Bool.not_true, Bool.not_false]; (try with_reducible rfl))))); (first | (refine held_skip (i := 7) (a' := ?hA185) (l' := ?hL185) rfl (by kernel_rfl) (by kernel_rfl) (by kernel_rfl) (fun _ _ _ h => h) (by rfl) (by assumption) ?ha185 ?hl185 ?hh185; (case ha185 => (simp only [Act.put, hq1, hq2, hq3, Option.isNone, Bool.not_true, Bool.not_false]; (try with_reducible rfl))); (case hl185 => (simp only [Act.put, hq1, hq2, hq3, Option.isNone, Bool.not_true, Bool.not_false]; (try with_reducible rfl)))) | (refine held_take (i := 7) (v := ?hV185) (a' := ?hA185) (l' := ?hL185) rfl (by kernel_rfl) (by kernel_rfl) (by kernel_rfl) (fun _ _ _ h => h) (by rfl) ?hv185 (by assumption) ?ha185 ?hl185 ?hh185; (case hv185 => (intro w hSw; (try dsimp only at hSw); go_simp; (try simp only [run_eql_slice_nil _ 36 _ _ _ _ Try.underlying36, Result.andThen_ok]); (try with_reducible rfl))); (case ha185 => (simp only [Act.put, hq1, hq2, hq3, Option.isNone, Bool.not_true, Bool.not_false]; (try with_reducible rfl))); (case hl185 => (simp only [Act.put, hq1, hq2, hq3, Option.isNone, Bool.not_true, Bool.not_false]; (try with_reducible rfl))))); (first | (refine held_skip (i := 8) (a' := ?hA186) (l' := ?hL186) rfl (by kernel_rfl) (by kernel_rfl) (by kernel_rfl) (fun _ _ _ h => h) (by rfl) (by assumption) ?ha186 ?hl186 ?hh186; (case ha186 => (simp only [Act.put, hq1, hq2, hq3, Option.isNone, Bool.not_true, Bool.not_false]; (try with_reducible rfl))); (case hl186 => (simp only [Act.put, hq1, hq2, hq3, Option.isNone, Bool.not_true, Bool.not_false]; (try with_reducible rfl)))) | (refine held_take (i := 8) (v := ?hV186) (a' := ?hA186) (l' := ?hL186) rfl (by kernel_rfl) (by kernel_rfl) (by kernel_rfl) (fun _ _ _ h => h) (by rfl) ?hv186 (by assumption) ?ha186 ?hl186 ?hh186; (case hv186 => (intro w hSw; (try dsimp only at hSw); go_simp; (try simp only [run_eql_slice_nil _ 36 _ _ _ _ Try.underlying36, Result.andThen_ok]); (try with_reducible rfl))); (case ha186 => (simp only [Act.put, hq1, hq2, hq3, Option.isNone, Bool.not_true, Bool.not_false]; (try with_reducible rfl))); (case hl186 => (simp only [Act.put, hq1, hq2, hq3, Option.isNone, Bool.not_true, Bool.not_false]; (try with_reducible rfl))))); (first | (refine held_skip (i := 9) (a' := ?hA187) (l' := ?hL187) rfl (by kernel_rfl) (by kernel_rfl) (by kernel_rfl) (fun _ _ _ h => h) (by rfl) (by assumption) ?ha187 ?hl187 ?hh187; (case ha187 => (simp only [Act.put, hq1, hq2, hq3, Option.isNone, Bool.not_true, Bool.not_false]; (try with_reducible rfl))); (case hl187 => (simp only [Act.put, hq1, hq2, hq3, Option.isNone, Bool.not_true, Bool.not_false]; (try with_reducible rfl)))) | (refine held_take (i := 9) (v := ?hV187) (a' := ?hA187) (l' := ?hL187) rfl (by kernel_rfl) (by kernel_rfl) (by kernel_rfl) (fun _ _ _ h => h) (by rfl) ?hv187 (by assumption) ?ha187 ?hl187 ?hh187; (case hv187 => (intro w hSw; (try dsimp only at hSw); go_simp; (try simp only [run_eql_slice_nil _ 36 _ _ _ _ Try.underlying36, Result.andThen_ok]); (try with_reducible rfl))); (case ha187 => (simp only [Act.put, hq1, hq2, hq3, Option.isNone, Bool.not_true, Bool.not_false]; (try with_reducible rfl))); (case hl187 => (simp only [Act.put, hq1, hq2, hq3, Option.isNone, Bool.not_true, Bool.not_false]; (try with_reducible rfl))))); (first | (refine held_skip (i := 10) (a' := ?hA188) (l' := ?hL188) rfl (by kernel_rfl) (by kernel_rfl) (by kernel_rfl) (fun _ _ _ h => h) (by rfl) (by assumption) ?ha188 ?hl188 ?hh188; (case ha188 => (simp only [Act.put, hq1, hq2, hq3, Option.isNone, Bool.not_true, Bool.not_false]; (try with_reducible rfl))); (case hl188 => (simp only [Act.put, hq1, hq2, hq3, Option.isNone, Bool.not_true, Bool.not_false]; (try with_reducible rfl)))) | (refine held_take (i := 10) (v := ?hV188) (a' := ?hA188) (l' := ?hL188) rfl (by kernel_rfl) (by kernel_rfl) (by kernel_rfl) (fun _ _ _ h => h) (by rfl) ?hv188 (by assumption) ?ha188 ?hl188 ?hh188; (case hv188 => (intro w hSw; (try dsimp only at hSw); go_simp; (try simp only [run_eql_slice_nil _ 36 _ _ _ _ Try.underlying36, Result.andThen_ok]); (try with_reducible rfl))); (case ha188 => (simp only [Act.put, hq1, hq2, hq3, Option.isNone, Bool.not_true, Bool.not_false]; (try with_reducible rfl))); (case hl188 => (simp only [Act.put, hq1, hq2, hq3, Option.isNone, Bool.not_true, Bool.not_false]; (try with_reducible rfl))))); (first | (refine held_skip (i := 11) (a' := ?hA189) (l' := ?hL189) rfl (by kernel_rfl) (by kernel_rfl) (by kernel_rfl) (fun _ _ _ h => h) (by rfl) (by assumption) ?ha189 ?hl189 ?hh189; (case ha189 => (simp only [Act.put, hq1, hq2, hq3, Option.isNone, Bool.not_true, Bool.not_false]; (try with_reducible rfl))); (case hl189 => (simp only [Act.put, hq1, hq2, hq3, Option.isNone, Bool.not_true, Bool.not_false]; (try with_reducible rfl)))) | (refine held_take (i := 11) (v := ?hV189) (a' := ?hA189) (l' := ?hL189) rfl (by kernel_rfl) (by kernel_rfl) (by kernel_rfl) (fun _ _ _ h => h) (by rfl) ?hv189 (by assumption) ?ha189 ?hl189 ?hh189; (case hv189 => (intro w hSw; (try dsimp only at hSw); go_simp; (try simp only [run_eql_slice_nil _ 36 _ _ _ _ Try.underlying36, Result.andThen_ok]); (try with_reducible rfl))); (case ha189 => (simp only [Act.put, hq1, hq2, hq3, Option.isNone, Bool.not_true, Bool.not_false]; (try with_reducible rfl))); (case hl189 => (simp only [Act.put, hq1, hq2, hq3, Option.isNone, Bool.not_true, Bool.not_false]; (try with_reducible rfl))))); (first | (refine held_skip (i := 12) (a' := ?hA190) (l' := ?hL190) rfl (by kernel_rfl) (by kernel_rfl) (by kernel_rfl) (fun _ _ _ h => h) (by rfl) (by assumption) ?ha190 ?hl190 ?hh190; (case ha190 => (simp only [Act.put, hq1, hq2, hq3, Option.isNone, Bool.not_true, Bool.not_false]; (try with_reducible rfl))); (case hl190 => (simp only [Act.put, hq1, hq2, hq3, Option.isNone, Bool.not_true, Bool.not_false]; (try with_reducible rfl)))) | (refine held_take (i := 12) (v := ?hV190) (a' := ?hA190) (l' := ?hL190) rfl (by kernel_rfl) (by kernel_rfl) (by kernel_rfl) (fun _ _ _ h => h) (by rfl) ?hv190 (by assumption) ?ha190 ?hl190 ?hh190; (case hv190 => (intro w hSw; (try dsimp only at hSw); go_simp; (try simp only [run_eql_slice_nil _ 36 _ _ _ _ Try.underlying36, Result.andThen_ok]); (try with_reducible rfl))); (case ha190 => (simp only [Act.put, hq1, hq2, hq3, Option.isNone, Bool.not_true, Bool.not_false]; (try with_reducible rfl))); (case hl190 => (simp only [Act.put, hq1, hq2, hq3, Option.isNone, Bool.not_true, Bool.not_false]; (try with_reducible rfl))))); (first | (refine held_skip (i := 13) (a' := ?hA191) (l' := ?hL191) rfl (by kernel_rfl) (by kernel_rfl) (by kernel_rfl) (fun _ _ _ h => h) (by rfl) (by assumption) ?ha191 ?hl191 ?hh191; (case ha191 => (simp only [Act.put, hq1, hq2, hq3, Option.isNone, Bool.not_true, Bool.not_false]; (try with_reducible rfl))); (case hl191 => (simp only [Act.put, hq1, hq2, hq3, Option.isNone, Bool.not_true, Bool.not_false]; (try with_reducible rfl)))) | (refine held_take (i := 13) (v := ?hV191) (a' := ?hA191) (l' := ?hL191) rfl (by kernel_rfl) (by kernel_rfl) (by kernel_rfl) (fun _ _ _ h => h) (by rfl) ?hv191 (by assumption) ?ha191 ?hl191 ?hh191; (case hv191 => (intro w hSw; (try dsimp only at hSw); go_simp; (try simp only [run_eql_slice_nil _ 36 _ _ _ _ Try.underlying36, Result.andThen_ok]); (try with_reducible rfl))); (case ha191 => (simp only [Act.put, hq1, hq2, hq3, Option.isNone, Bool.not_true, Bool.not_false]; (try with_reducible rfl))); (case hl191 => (simp only [Act.put, hq1, hq2, hq3, Option.isNone, Bool.not_true, Bool.not_false]; (try with_reducible rfl))))); (first | (refine held_skip (i := 14) (a' := ?hA192) (l' := ?hL192) rfl (by kernel_rfl) (by kernel_rfl) (by kernel_rfl) (fun _ _ _ h => h) (by rfl) (by assumption) ?ha192 ?hl192 ?hh192; (case ha192 => (simp only [Act.put, hq1, hq2, hq3, Option.isNone, Bool.not_true, Bool.not_false]; (try with_reducible rfl))); (case hl192 => (simp only [Act.put, hq1, hq2, hq3, Option.isNone, Bool.not_true, Bool.not_false]; (try with_reducible rfl)))) | (refine held_take (i := 14) (v := ?hV192) (a' := ?hA192) (l' := ?hL192) rfl (by kernel_rfl) (by kernel_rfl) (by kernel_rfl) (fun _ _ _ h => h) (by rfl) ?hv192 (by assumption) ?ha192 ?hl192 ?hh192; (case hv192 => (intro w hSw; (try dsimp only at hSw); go_simp; (try simp only [run_eql_slice_nil _ 36 _ _ _ _ Try.underlying36, Result.andThen_ok]); (try with_reducible rfl))); (case ha192 => (simp only [Act.put, hq1, hq2, hq3, Option.isNone, Bool.not_true, Bool.not_false]; (try with_reducible rfl))); (case hl192 => (simp only [Act.put, hq1, hq2, hq3, Option.isNone, Bool.not_true, Bool.not_false]; (try with_reducible rfl))))); (first | (refine held_skip (i := 15) (a' := ?hA193) (l' := ?hL193) rfl (by kernel_rfl) (by kernel_rfl) (by kernel_rfl) (fun _ _ _ h => h) (by rfl) (by assumption) ?ha193 ?hl193 ?hh193; (case ha193 => (simp only [Act.put, hq1, hq2, hq3, Option.isNone, Bool.not_true, Bool.not_false]; (try with_reducible rfl))); (case hl193 => (simp only [Act.put, hq1, hq2, hq3, Option.isNone, Bool.not_true, Bool.not_false]; (try with_reducible rfl)))) | (refine held_take (i := 15) (v := ?hV193) (a' := ?hA193) (l' := ?hL193) rfl (by kernel_rfl) (by kernel_rfl) (by kernel_rfl) (fun _ _ _ h => h) (by rfl) ?hv193 (by assumption) ?ha193 ?hl193 ?hh193; (case hv193 => (intro w hSw; (try dsimp only at hSw); go_simp; (try simp only [run_eql_slice_nil _ 36 _ _ _ _ Try.underlying36, Result.andThen_ok]); (try with_reducible rfl))); (case ha193 => (simp only [Act.put, hq1, hq2, hq3, Option.isNone, Bool.not_true, Bool.not_false]; (try with_reducible rfl))); (case hl193 => (simp only [Act.put, hq1, hq2, hq3, Option.isNone, Bool.not_true, Bool.not_false]; (try with_reducible rfl))))); (first | (refine held_skip (i := 16) (a' := ?hA194) (l' := ?hL194) rfl (by kernel_rfl) (by kernel_rfl) (by kernel_rfl) (fun _ _ _ h => h) (by rfl) (by assumption) ?ha194 ?hl194 ?hh194; (case ha194 => (simp only [Act.put, hq1, hq2, hq3, Option.isNone, Bool.not_true, Bool.not_false]; (try with_reducible rfl))); (case hl194 => (simp only [Act.put, hq1, hq2, hq3, Option.isNone, Bool.not_true, Bool.not_false]; (try with_reducible rfl)))) | (refine held_take (i := 16) (v := ?hV194) (a' := ?hA194) (l' := ?hL194) rfl (by kernel_rfl) (by kernel_rfl) (by kernel_rfl) (fun _ _ _ h => h) (by rfl) ?hv194 (by assumption) ?ha194 ?hl194 ?hh194; (case hv194 => (intro w hSw; (try dsimp only at hSw); go_simp; (try simp only [run_eql_slice_nil _ 36 _ _ _ _ Try.underlying36, Result.andThen_ok]); (try with_reducible rfl))); (case ha194 => (simp only [Act.put, hq1, hq2, hq3, Option.isNone, Bool.not_true, Bool.not_false]; (try with_reducible rfl))); (case hl194 => (simp only [Act.put, hq1, hq2, hq3, Option.isNone, Bool.not_true, Bool.not_false]; (try with_reducible rfl))))))
            refine held_one (i := 17) rfl (by kernel_rfl) (fun K hK => ?_)
            go_simp
            go_at_call 16
            (with_reducible refine (AH.out _).mono ?_)
            rintro e w7 ⟨rfl, hf7⟩
            have hf67 : Fr wr w7 := Fr.trans (Below.refl _ _).drew hf7
            (refine held_back hK (a' := ?hA258) (l' := ?hL258) ?ha258 ?hl258 (hSC.out _ hf67) (fun hHeld => ?hh258); (case ha258 => first | with_reducible rfl | (simp only [Act.put, hq1, hq2, hq3, Option.isNone, Bool.not_true, Bool.not_false]; (try with_reducible rfl))); (case hl258 => (simp only [Act.put, hq1, hq2, hq3, Option.isNone, Bool.not_true, Bool.not_false]; (try with_reducible rfl))); clear hK K)
            ((first | (refine held_skip (i := 18) (a' := ?hA195) (l' := ?hL195) rfl (by kernel_rfl) (by kernel_rfl) (by kernel_rfl) (fun _ _ _ h => h) (by rfl) (by assumption) ?ha195 ?hl195 ?hh195; (case ha195 => (simp only [Act.put, hq1, hq2, hq3, Option.isNone, Bool.not_true, Bool.not_false]; (try with_reducible rfl))); (case hl195 => (simp only [Act.put, hq1, hq2, hq3, Option.isNone, Bool.not_true, Bool.not_false]; (try with_reducible rfl)))) | (refine held_take (i := 18) (v := ?hV195) (a' := ?hA195) (l' := ?hL195) rfl (by kernel_rfl) (by kernel_rfl) (by kernel_rfl) (fun _ _ _ h => h) (by rfl) ?hv195 (by assumption) ?ha195 ?hl195 ?hh195; (case hv195 => (intro w hSw; (try dsimp only at hSw); go_simp; (try simp only [run_eql_slice_nil _ 36 _ _ _ _ Try.underlying36, Result.andThen_ok]); (try with_reducible rfl))); (case ha195 => (simp only [Act.put, hq1, hq2, hq3, Option.isNone, Bool.not_true, Bool.not_false]; (try with_reducible rfl))); (case hl195 => (simp only [Act.put, hq1, hq2, hq3, Option.isNone, Bool.not_true, Bool.not_false]; (try with_reducible rfl))))))
            refine wpAnyH_done (by kernel_rfl) ?_ _
            have HF7 : Hid (Fr W2 w7) := HF.out.trans hf67
            clear hSC AH hHeld hf7 hf67
            cases ab with
            | true =>
              have HS2 : Hid (pa = k + 1 + ((p.keep.drop (k + 1)).takeWhile fun y => aheadB y.h h).length) := by rw [Hid, HS.out, placeAt_step HYY.out HAB.out.symm]; omega
              go_wp2_with fail
              go_roundw
              case rel => exact ⟨k + 1, by omega, by go_num, HS2, HF7⟩
              case measure => simp [intOf]; omega
            | false =>
              have hkp : pa = k := by rw [HS.out, placeAt_stop HYY.out HAB.out.symm]; omega
              subst hkp
              clear HAB HYY HS
              obtain ⟨W3, hW3⟩ : ∃ W3, W3 = w7 := ⟨_, rfl⟩
              have HF23 : Hid (Fr W2 W3) := by rw [hW3]; exact HF7.out
              rw [← hW3]
              clear hW3
              have HF3 : Hid (Fr w W3) := HF2.out.trans HF23.out
              have H3 : Hid (PlM W3 base pb p (some ad) c) := (H.out.fr HF3.out).plM
              have HQ3 := Lib.hid (blk_go HQ2.out HF23.out)
              have hbx := H3.out.blk
              rw [← HN.out] at hbx
              have hqx := HQ3.out
              (obtain ⟨bp0, bp1, bp2, bp3⟩ := box4_ hbx)
              (obtain ⟨bx0, bx1, bx2, bx3, bx4, bx5⟩ := box6_ hqx)
              have hSC : Hid (∀ w', Fr W3 w' → w'.cell? ⟨pb, 1, none⟩ = some (.slice (some ad) n c) ∧ w'.cell? ⟨q, 0, none⟩ = some (.int .i64 h.frm) ∧ w'.cell? ⟨q, 1, none⟩ = some (.int .i64 h.seq) ∧ w'.cell? ⟨q, 2, none⟩ = some (.int .i64 h.to) ∧ w'.cell? ⟨q, 3, none⟩ = some (.int .i64 h.till) ∧ w'.cell? ⟨q, 4, none⟩ = some (.int .i64 h.bytes) ∧ w'.cell? ⟨q, 5, none⟩ = some (.int .i64 h.block)) := fun w' hf => ⟨(hf.cell (World.block_lt_of_cell? W3 _ bp1)).trans bp1, (hf.cell (World.block_lt_of_cell? W3 _ bx0)).trans bx0, (hf.cell (World.block_lt_of_cell? W3 _ bx1)).trans bx1, (hf.cell (World.block_lt_of_cell? W3 _ bx2)).trans bx2, (hf.cell (World.block_lt_of_cell? W3 _ bx3)).trans bx3, (hf.cell (World.block_lt_of_cell? W3 _ bx4)).trans bx4, (hf.cell (World.block_lt_of_cell? W3 _ bx5)).trans bx5⟩
              clear hbx hqx bp0 bp1 bp2 bp3 bx0 bx1 bx2 bx3 bx4 bx5
              go_upto_region 15 with fail
              refine last_begin 12 (n := 13) (bs := #[false, false, false, false, false, false, false, false, false, false, false, false, false]) rfl rfl (by kernel_rfl) (S := fun w' => w'.cell? ⟨pb, 1, none⟩ = some (.slice (some ad) n c) ∧ w'.cell? ⟨q, 0, none⟩ = some (.int .i64 h.frm) ∧ w'.cell? ⟨q, 1, none⟩ = some (.int .i64 h.seq) ∧ w'.cell? ⟨q, 2, none⟩ = some (.int .i64 h.to) ∧ w'.cell? ⟨q, 3, none⟩ = some (.int .i64 h.till) ∧ w'.cell? ⟨q, 4, none⟩ = some (.int .i64 h.bytes) ∧ w'.cell? ⟨q, 5, none⟩ = some (.int .i64 h.block)) (hSC.out _ (Below.refl _ _).drew) (fun hHeld => ?_)
              ((first | (refine last_skip (i := 0) (a' := ?hA224) (l' := ?hL224) rfl (by kernel_rfl) (by kernel_rfl) (by kernel_rfl) (by kernel_rfl) (fun _ _ _ h => h) (by rfl) (by assumption) ?ha224 ?hl224 ?hh224; (case ha224 => (simp only [Act.put, hq1, hq2, hq3, Option.isNone, Bool.not_true, Bool.not_false]; (try with_reducible rfl))); (case hl224 => (simp only [Act.put, hq1, hq2, hq3, Option.isNone, Bool.not_true, Bool.not_false]; (try with_reducible rfl)))) | (refine last_take (i := 0) (v := ?hV224) (a' := ?hA224) (l' := ?hL224) rfl (by kernel_rfl) (by kernel_rfl) (by kernel_rfl) (by kernel_rfl) (fun _ _ _ h => h) (by rfl) ?hv224 (by assumption) ?ha224 ?hl224 ?hh224; (case hv224 => (intro w hSw; (try dsimp only at hSw); go_simp; (try simp only [run_eql_slice_nil _ 36 _ _ _ _ Try.underlying36, Result.andThen_ok]); (try with_reducible rfl))); (case ha224 => (simp only [Act.put, hq1, hq2, hq3, Option.isNone, Bool.not_true, Bool.not_false]; (try with_reducible rfl))); (case hl224 => (simp only [Act.put, hq1, hq2, hq3, Option.isNone, Bool.not_true, Bool.not_false]; (try with_reducible rfl))))); (first | (refine last_skip (i := 1) (a' := ?hA225) (l' := ?hL225) rfl (by kernel_rfl) (by kernel_rfl) (by kernel_rfl) (by kernel_rfl) (fun _ _ _ h => h) (by rfl) (by assumption) ?ha225 ?hl225 ?hh225; (case ha225 => (simp only [Act.put, hq1, hq2, hq3, Option.isNone, Bool.not_true, Bool.not_false]; (try with_reducible rfl))); (case hl225 => (simp only [Act.put, hq1, hq2, hq3, Option.isNone, Bool.not_true, Bool.not_false]; (try with_reducible rfl)))) | (refine last_take (i := 1) (v := ?hV225) (a' := ?hA225) (l' := ?hL225) rfl (by kernel_rfl) (by kernel_rfl) (by kernel_rfl) (by kernel_rfl) (fun _ _ _ h => h) (by rfl) ?hv225 (by assumption) ?ha225 ?hl225 ?hh225; (case hv225 => (intro w hSw; (try dsimp only at hSw); go_simp; (try simp only [run_eql_slice_nil _ 36 _ _ _ _ Try.underlying36, Result.andThen_ok]); (try with_reducible rfl))); (case ha225 => (simp only [Act.put, hq1, hq2, hq3, Option.isNone, Bool.not_true, Bool.not_false]; (try with_reducible rfl))); (case hl225 => (simp only [Act.put, hq1, hq2, hq3, Option.isNone, Bool.not_true, Bool.not_false]; (try with_reducible rfl))))); (first | (refine last_skip (i := 2) (a' := ?hA226) (l' := ?hL226) rfl (by kernel_rfl) (by kernel_rfl) (by kernel_rfl) (by kernel_rfl) (fun _ _ _ h => h) (by rfl) (by assumption) ?ha226 ?hl226 ?hh226; (case ha226 => (simp only [Act.put, hq1, hq2, hq3, Option.isNone, Bool.not_true, Bool.not_false]; (try with_reducible rfl))); (case hl226 => (simp only [Act.put, hq1, hq2, hq3, Option.isNone, Bool.not_true, Bool.not_false]; (try with_reducible rfl)))) | (refine last_take (i := 2) (v := ?hV226) (a' := ?hA226) (l' := ?hL226) rfl (by kernel_rfl) (by kernel_rfl) (by kernel_rfl) (by kernel_rfl) (fun _ _ _ h => h) (by rfl) ?hv226 (by assumption) ?ha226 ?hl226 ?hh226; (case hv226 => (intro w hSw; (try dsimp only at hSw); go_simp; (try simp only [run_eql_slice_nil _ 36 _ _ _ _ Try.underlying36, Result.andThen_ok]); (try with_reducible rfl))); (case ha226 => (simp only [Act.put, hq1, hq2, hq3, Option.isNone, Bool.not_true, Bool.not_false]; (try with_reducible rfl))); (case hl226 => (simp only [Act.put, hq1, hq2, hq3, Option.isNone, Bool.not_true, Bool.not_false]; (try with_reducible rfl))))); (first | (refine last_skip (i := 3) (a' := ?hA227) (l' := ?hL227) rfl (by kernel_rfl) (by kernel_rfl) (by kernel_rfl) (by kernel_rfl) (fun _ _ _ h => h) (by rfl) (by assumption) ?ha227 ?hl227 ?hh227; (case ha227 => (simp only [Act.put, hq1, hq2, hq3, Option.isNone, Bool.not_true, Bool.not_false]; (try with_reducible rfl))); (case hl227 => (simp only [Act.put, hq1, hq2, hq3, Option.isNone, Bool.not_true, Bool.not_false]; (try with_reducible rfl)))) | (refine last_take (i := 3) (v := ?hV227) (a' := ?hA227) (l' := ?hL227) rfl (by kernel_rfl) (by kernel_rfl) (by kernel_rfl) (by kernel_rfl) (fun _ _ _ h => h) (by rfl) ?hv227 (by assumption) ?ha227 ?hl227 ?hh227; (case hv227 => (intro w hSw; (try dsimp only at hSw); go_simp; (try simp only [run_eql_slice_nil _ 36 _ _ _ _ Try.underlying36, Result.andThen_ok]); (try with_reducible rfl))); (case ha227 => (simp only [Act.put, hq1, hq2, hq3, Option.isNone, Bool.not_true, Bool.not_false]; (try with_reducible rfl))); (case hl227 => (simp only [Act.put, hq1, hq2, hq3, Option.isNone, Bool.not_true, Bool.not_false]; (try with_reducible rfl))))); (first | (refine last_skip (i := 4) (a' := ?hA228) (l' := ?hL228) rfl (by kernel_rfl) (by kernel_rfl) (by kernel_rfl) (by kernel_rfl) (fun _ _ _ h => h) (by rfl) (by assumption) ?ha228 ?hl228 ?hh228; (case ha228 => (simp only [Act.put, hq1, hq2, hq3, Option.isNone, Bool.not_true, Bool.not_false]; (try with_reducible rfl))); (case hl228 => (simp only [Act.put, hq1, hq2, hq3, Option.isNone, Bool.not_true, Bool.not_false]; (try with_reducible rfl)))) | (refine last_take (i := 4) (v := ?hV228) (a' := ?hA228) (l' := ?hL228) rfl (by kernel_rfl) (by kernel_rfl) (by kernel_rfl) (by kernel_rfl) (fun _ _ _ h => h) (by rfl) ?hv228 (by assumption) ?ha228 ?hl228 ?hh228; (case hv228 => (intro w hSw; (try dsimp only at hSw); go_simp; (try simp only [run_eql_slice_nil _ 36 _ _ _ _ Try.underlying36, Result.andThen_ok]); (try with_reducible rfl))); (case ha228 => (simp only [Act.put, hq1, hq2, hq3, Option.isNone, Bool.not_true, Bool.not_false]; (try with_reducible rfl))); (case hl228 => (simp only [Act.put, hq1, hq2, hq3, Option.isNone, Bool.not_true, Bool.not_false]; (try with_reducible rfl))))); (first | (refine last_skip (i := 5) (a' := ?hA229) (l' := ?hL229) rfl (by kernel_rfl) (by kernel_rfl) (by kernel_rfl) (by kernel_rfl) (fun _ _ _ h => h) (by rfl) (by assumption) ?ha229 ?hl229 ?hh229; (case ha229 => (simp only [Act.put, hq1, hq2, hq3, Option.isNone, Bool.not_true, Bool.not_false]; (try with_reducible rfl))); (case hl229 => (simp only [Act.put, hq1, hq2, hq3, Option.isNone, Bool.not_true, Bool.not_false]; (try with_reducible rfl)))) | (refine last_take (i := 5) (v := ?hV229) (a' := ?hA229) (l' := ?hL229) rfl (by kernel_rfl) (by kernel_rfl) (by kernel_rfl) (by kernel_rfl) (fun _ _ _ h => h) (by rfl) ?hv229 (by assumption) ?ha229 ?hl229 ?hh229; (case hv229 => (intro w hSw; (try dsimp only at hSw); go_simp; (try simp only [run_eql_slice_nil _ 36 _ _ _ _ Try.underlying36, Result.andThen_ok]); (try with_reducible rfl))); (case ha229 => (simp only [Act.put, hq1, hq2, hq3, Option.isNone, Bool.not_true, Bool.not_false]; (try with_reducible rfl))); (case hl229 => (simp only [Act.put, hq1, hq2, hq3, Option.isNone, Bool.not_true, Bool.not_false]; (try with_reducible rfl))))); (first | (refine last_skip (i := 6) (a' := ?hA230) (l' := ?hL230) rfl (by kernel_rfl) (by kernel_rfl) (by kernel_rfl) (by kernel_rfl) (fun _ _ _ h => h) (by rfl) (by assumption) ?ha230 ?hl230 ?hh230; (case ha230 => (simp only [Act.put, hq1, hq2, hq3, Option.isNone, Bool.not_true, Bool.not_false]; (try with_reducible rfl))); (case hl230 => (simp only [Act.put, hq1, hq2, hq3, Option.isNone, Bool.not_true, Bool.not_false]; (try with_reducible rfl)))) | (refine last_take (i := 6) (v := ?hV230) (a' := ?hA230) (l' := ?hL230) rfl (by kernel_rfl) (by kernel_rfl) (by kernel_rfl) (by kernel_rfl) (fun _ _ _ h => h) (by rfl) ?hv230 (by assumption) ?ha230 ?hl230 ?hh230; (case hv230 => (intro w hSw; (try dsimp only at hSw); go_simp; (try simp only [run_eql_slice_nil _ 36 _ _ _ _ Try.underlying36, Result.andThen_ok]); (try with_reducible rfl))); (case ha230 => (simp only [Act.put, hq1, hq2, hq3, Option.isNone, Bool.not_true, Bool.not_false]; (try with_reducible rfl))); (case hl230 => (simp only [Act.put, hq1, hq2, hq3, Option.isNone, Bool.not_true, Bool.not_false]; (try with_reducible rfl))))); (first | (refine last_skip (i := 7) (a' := ?hA231) (l' := ?hL231) rfl (by kernel_rfl) (by kernel_rfl) (by kernel_rfl) (by kernel_rfl) (fun _ _ _ h => h) (by rfl) (by assumption) ?ha231 ?hl231 ?hh231; (case ha231 => (simp only [Act.put, hq1, hq2, hq3, Option.isNone, Bool.not_true, Bool.not_false]; (try with_reducible rfl))); (case hl231 => (simp only [Act.put, hq1, hq2, hq3, Option.isNone, Bool.not_true, Bool.not_false]; (try with_reducible rfl)))) | (refine last_take (i := 7) (v := ?hV231) (a' := ?hA231) (l' := ?hL231) rfl (by kernel_rfl) (by kernel_rfl) (by kernel_rfl) (by kernel_rfl) (fun _ _ _ h => h) (by rfl) ?hv231 (by assumption) ?ha231 ?hl231 ?hh231; (case hv231 => (intro w hSw; (try dsimp only at hSw); go_simp; (try simp only [run_eql_slice_nil _ 36 _ _ _ _ Try.underlying36, Result.andThen_ok]); (try with_reducible rfl))); (case ha231 => (simp only [Act.put, hq1, hq2, hq3, Option.isNone, Bool.not_true, Bool.not_false]; (try with_reducible rfl))); (case hl231 => (simp only [Act.put, hq1, hq2, hq3, Option.isNone, Bool.not_true, Bool.not_false]; (try with_reducible rfl))))))
              refine last_one (i := 8) rfl (by kernel_rfl) (fun K hK => ?_)
              go_simp
              have HF5 : Hid (Fr W3 W3.drew) := (Below.refl _ _).drew
              obtain ⟨W6, hW6⟩ : ∃ W6, W6 = (W3.alloc (.cells #[.int .i64 h.frm, .int .i64 h.seq, .int .i64 h.to, .int .i64 h.till, .int .i64 h.bytes, .int .i64 h.block, .bool false, .slice none 0 0, .slice none 0 0, .int .i64 0, .int .i64 0, .int .i64 0, .int .i64 0, .slice none 0 0, .bool false, .bool false] 46)).drew := ⟨_, rfl⟩
              obtain ⟨vb, hvb⟩ : ∃ vb, vb = W3.heap.size := ⟨_, rfl⟩
              have HV6 : Hid (W6.heap[vb]? = some (.cells (kpCells (Kp.fresh h) none 0 0 (.slice none 0 0) (.slice none 0 0)).toArray 46 (0, 0))) := by rw [hW6]; exact heap_d (heap_new hvb)
              have HF36 : Hid (Fr W3 W6) := by rw [hW6]; exact (frAlloc _ _).drew
              have H6 : Hid (PlM W6 base pb p (some ad) c) := H3.out.fr HF36.out
              have HO6 : Hid (Own 16 (eHi base eKq) W6 base 46 (.slice (some ad) n c) (p.keep.map fun x => (false, x))) := by
                have := H6.out.own.toQ
                rw [← HN.out] at this
                exact this
              have HX6 : Hid (eHi base eKq W6 (fun b => b < W6.heap.size ∧ (Value.slice (some ad) n c).ownBlock ≠ some b) (fun j => (kpCells (Kp.fresh h) none 0 0 (.slice none 0 0) (.slice none 0 0))[j]?) (true, Kp.fresh h)) := by
                have w0 : wfI 0 := wfI.mk (by decide)
                exact ⟨eKp_iff.2 ⟨none, 0, 0, none, 0, 0, none, 0, 0, ⟨rfl, rfl, rfl, rfl, rfl, rfl, rfl, rfl, rfl, rfl, rfl, rfl, rfl, rfl, rfl, rfl⟩, ⟨hwh, w0, w0, w0, w0⟩, ⟨⟨by unfold lim; omega, by omega, by unfold maxLen; omega⟩, Sl.nil⟩, ⟨⟨by unfold lim; omega, by omega, by unfold maxLen; omega⟩, Sl.nil⟩, ⟨by unfold lim; omega, by omega, by unfold maxLen; omega⟩, Sl.nil⟩, fun e => ⟨rfl, rfl, rfl⟩⟩
              rw [← hW6, ← hvb]
              have HVB := Lib.hid hvb
              clear hW6 hvb
              (refine last_back hK (a' := ?hA250) (l' := ?hL250) ?ha250 ?hl250 (hSC.out _ HF36.out) (fun hHeld => ?hh250); (case ha250 => first | with_reducible rfl | (simp only [Act.put, hq1, hq2, hq3, Option.isNone, Bool.not_true, Bool.not_false]; (try with_reducible rfl))); (case hl250 => (simp only [Act.put, hq1, hq2, hq3, Option.isNone, Bool.not_true, Bool.not_false]; (try with_reducible rfl))); clear hK K)
              refine last_one (i := 9) rfl (by kernel_rfl) (fun K hK => ?_)
              go_simp
              go_at_call 41
              with_reducible refine (insertKepts_own (N := base) W6 base pa vb (.slice (some ad) n c) (p.keep.map fun x => (false, x)) (true, Kp.fresh h) (kpCells (Kp.fresh h) none 0 0 (.slice none 0 0) (.slice none 0 0)) 46 HO6.out (by rw [List.length_map, ← HN.out]; omega) HV6.out (fun e => by have := (HO6.out.ge e).2; have h1 := H3.out.own; rw [← HN.out] at h1; have := (h1.ge e).2; have := HVB.out; omega) rfl (by simp [kpCells, Value.oneCell']) HX6.out (by rw [List.length_map, ← HN.out]; unfold lim; omega) (by have := HF3.out.size; have := HF36.out.size; omega)).mono ?_
              rintro e w7 ⟨v7, rfl, ho7, hg7⟩
              have hno : ∀ b, (Value.slice (some ad) n c).ownBlock = some b → base ≤ b ∧ b < w.heap.size := fun b hb => by
                have h1 := H.out.plM.own
                rw [← HN.out] at h1
                exact h1.ge hb
              have hk7 : Chg (fun b => (Value.slice (some ad) n c).ownBlock = some b) W6 w7 := ⟨hg7.os, hg7.tape, hg7.output, hg7.size, fun b hb hs => hg7.block b hb fun e => hs e.symm⟩
              have hno1 : ¬ (Value.slice (some ad) n c).ownBlock = some pb := fun e => by have := hno _ e; omega
              have hno2 : ¬ (Value.slice (some ad) n c).ownBlock = some q := fun e => by have := hno _ e; have := HQW.out; omega
              have hS7 : w7.cell? ⟨pb, 1, none⟩ = some (.slice (some ad) n c) ∧ w7.cell? ⟨q, 0, none⟩ = some (.int .i64 h.frm) ∧ w7.cell? ⟨q, 1, none⟩ = some (.int .i64 h.seq) ∧ w7.cell? ⟨q, 2, none⟩ = some (.int .i64 h.to) ∧ w7.cell? ⟨q, 3, none⟩ = some (.int .i64 h.till) ∧ w7.cell? ⟨q, 4, none⟩ = some (.int .i64 h.bytes) ∧ w7.cell? ⟨q, 5, none⟩ = some (.int .i64 h.block) := by
                obtain ⟨k1, k2, k3, k4, k5, k6, k7⟩ := hSC.out _ HF36.out
                exact ⟨(hk7.cell (World.block_lt_of_cell? W6 _ k1) hno1).trans k1, (hk7.cell (World.block_lt_of_cell? W6 _ k2) hno2).trans k2, (hk7.cell (World.block_lt_of_cell? W6 _ k3) hno2).trans k3, (hk7.cell (World.block_lt_of_cell? W6 _ k4) hno2).trans k4, (hk7.cell (World.block_lt_of_cell? W6 _ k5) hno2).trans k5, (hk7.cell (World.block_lt_of_cell? W6 _ k6) hno2).trans k6, (hk7.cell (World.block_lt_of_cell? W6 _ k7) hno2).trans k7⟩
              have hb7 := hk7.blk H6.out.blk hno1
              rw [← HN.out] at hb7
              have hlk : (List.take pa (p.keep.map fun x => (false, x))).length = pa := by rw [List.length_take, List.length_map, ← HN.out]; omega
              have e1 : (List.take pa (p.keep.map fun x => (false, x)) ++ (true, Kp.fresh h) :: List.drop pa (p.keep.map fun x => (false, x))).map (·.2) = insKp p.keep (Kp.fresh h) := by
                unfold insKp
                rw [show placeAt p.keep (Kp.fresh h).h = pa from Hpa.out.symm]
                simp [List.map_take, List.map_drop, List.map_map, Function.comp_def]
              obtain ⟨g7, cap7, T7, rfl, hF7, hT7⟩ := ho7.focNew2 (i := pa) (x := Kp.fresh h) (by rw [List.getElem?_append_right (by rw [hlk]; exact Nat.le_refl _), hlk, Nat.sub_self]; rfl) rfl rfl rfl
              have elen : (List.take pa (p.keep.map fun x => (false, x)) ++ (true, Kp.fresh h) :: List.drop pa (p.keep.map fun x => (false, x))).length = (insKp p.keep (Kp.fresh h)).length := by rw [← e1, List.length_map]
              rw [e1] at hF7
              rw [elen]
              have HF7 := Lib.hid hF7
              have HT7 := Lib.hid hT7
              have HK7 := Lib.hid hk7
              clear e1 elen hlk hF7 hT7
              obtain ⟨ln, hln⟩ : ∃ ln, ln = (insKp p.keep (Kp.fresh h)).length := ⟨_, rfl⟩
              rw [← hln]
              have HLN := Lib.hid hln
              clear hln
              (refine last_back hK (a' := ?hA251) (l' := ?hL251) ?ha251 ?hl251 (hS7) (fun hHeld => ?hh251); (case ha251 => first | with_reducible rfl | (simp only [Act.put, hq1, hq2, hq3, Option.isNone, Bool.not_true, Bool.not_false]; (try with_reducible rfl))); (case hl251 => (simp only [Act.put, hq1, hq2, hq3, Option.isNone, Bool.not_true, Bool.not_false]; (try with_reducible rfl))); clear hK K)
              refine last_one (i := 10) rfl (by kernel_rfl) (fun K hK => ?_)
              go_simp
              (refine last_back hK (a' := ?hA252) (l' := ?hL252) ?ha252 ?hl252 (hS7) (fun hHeld => ?hh252); (case ha252 => first | with_reducible rfl | (simp only [Act.put, hq1, hq2, hq3, Option.isNone, Bool.not_true, Bool.not_false]; (try with_reducible rfl))); (case hl252 => (simp only [Act.put, hq1, hq2, hq3, Option.isNone, Bool.not_true, Bool.not_false]; (try with_reducible rfl))); clear hK K)
              ((first | (refine last_skip (i := 11) (a' := ?hA232) (l' := ?hL232) rfl (by kernel_rfl) (by kernel_rfl) (by kernel_rfl) (by kernel_rfl) (fun _ _ _ h => h) (by rfl) (by assumption) ?ha232 ?hl232 ?hh232; (case ha232 => (simp only [Act.put, hq1, hq2, hq3, Option.isNone, Bool.not_true, Bool.not_false]; (try with_reducible rfl))); (case hl232 => (simp only [Act.put, hq1, hq2, hq3, Option.isNone, Bool.not_true, Bool.not_false]; (try with_reducible rfl)))) | (refine last_take (i := 11) (v := ?hV232) (a' := ?hA232) (l' := ?hL232) rfl (by kernel_rfl) (by kernel_rfl) (by kernel_rfl) (by kernel_rfl) (fun _ _ _ h => h) (by rfl) ?hv232 (by assumption) ?ha232 ?hl232 ?hh232; (case hv232 => (intro w hSw; (try dsimp only at hSw); go_simp; (try simp only [run_eql_slice_nil _ 36 _ _ _ _ Try.underlying36, Result.andThen_ok]); (try with_reducible rfl))); (case ha232 => (simp only [Act.put, hq1, hq2, hq3, Option.isNone, Bool.not_true, Bool.not_false]; (try with_reducible rfl))); (case hl232 => (simp only [Act.put, hq1, hq2, hq3, Option.isNone, Bool.not_true, Bool.not_false]; (try with_reducible rfl))))))
              have y1 := blk_free (i := 1) hb7
              have hpl7 := (Array.getElem?_eq_some_iff.1 hb7).1
              have mp1 := hS7.1
              refine last_one (i := 12) rfl (by kernel_rfl) (fun K hK => ?_)
              go_simp
              refine last_end hK (by kernel_rfl) ?_
              clear hK K
              obtain ⟨W8, hW8⟩ : ∃ W8, W8 = w7.setCell ⟨pb, 1, none⟩ (.slice (some ⟨g7, 0, none⟩) ln cap7) := ⟨_, rfl⟩
              have hb8 : W8.heap[pb]? = some (.cells #[.int .i64 p.me, .slice (some ⟨g7, 0, none⟩) ln cap7, .int .i64 p.time, .int .i64 p.seq] 25 (0, 0)) := by rw [hW8]; have := heap_setCell_same w7 pb 1 _ _ (.slice (some ⟨g7, 0, none⟩) ln cap7) hb7; simpa using this
              have hk8 : Chg (fun b => b = pb) w7 W8 := by rw [hW8]; exact Chg.set (S := fun b => b = pb) (p := ⟨pb, 1, none⟩) (Chg.refl _ _) rfl _
              rw [← hW8]
              (obtain ⟨bp0, bp1, bp2, bp3⟩ := box4_ hb8)
              have hil : pa < ln := by rw [HLN.out]; exact HF7.out.hi
              have HX8 : Hid (Foc0 T7 W8 base g7 cap7 (insKp p.keep (Kp.fresh h)) pa (Kp.fresh h) none 0 0 (.slice none 0 0) (.slice none 0 0)) :=
                ⟨HF7.out.chg hk8 (by have := HF7.out.hbg; omega) (fun b hb => by have := (HF7.out.low b hb).1; omega) (fun b e => (by cases e)) (fun b e => (by cases e)), fun b _ => ⟨fun e => (by cases e), fun e => (by cases e)⟩, fun b e => (by cases e), fun b hb => HT7.out b (Nat.le_trans hk8.size hb)⟩
              have HC8 : Hid (Chg (BunS pb (.slice (some ad) p.keep.length c)) w W8) := by
                rw [← HN.out]
                have q1 : Chg (BunS pb (.slice (some ad) n c)) w W6 := (HF3.out.trans HF36.out).chg
                have q2 : Chg (BunS pb (.slice (some ad) n c)) W6 w7 := HK7.out.more fun b hb => .inr hb
                exact (q1.trans q2).trans (hk8.more fun b hb => .inl hb)
              have HB8 := Lib.hid hb8
              clear hb7 hb8 hk8 hk7 hW8 hS7 y1 hpl7 mp1 hno hno1 hno2 hSC
              go_wp2_with fail
              go_ret2
              refine .inr ⟨insKp p.keep (Kp.fresh h), pa, Kp.fresh h, g7, cap7, none, 0, 0, .slice none 0 0, .slice none 0 0, T7, by rw [E6.out, Hpa.out], rfl, HC8.out, by rw [← HLN.out]; exact HB8.out, HX8.out⟩
          · have hkn : k = n := by omega
            have hkp : pa = k := by rw [HS.out, List.drop_eq_nil_of_le (by rw [← HN.out]; omega)]; simp
            subst hkp
            have tk : decide ((pa : Int) < (n : Int)) = false := by simp; omega
            clear hkn HS
            go_upto_region 13 with fail
            go_quiet (fail)
            obtain ⟨W3, hW3⟩ : ∃ W3, W3 = (wr.drewN nq) := ⟨_, rfl⟩
            have HF23 : Hid (Fr W2 W3) := by rw [hW3]; exact (by (repeat' (first | exact Below.refl _ _ | refine below_drewN ?_ _ | refine Below.drew ?_ | refine frA ?_ _ | refine Fr.trans ?_ HF.out)))
            rw [← hW3]
            clear hW3
            have HF3 : Hid (Fr w W3) := HF2.out.trans HF23.out
            have H3 : Hid (PlM W3 base pb p A c) := (H.out.fr HF3.out).plM
            have HQ3 := Lib.hid (blk_go HQ2.out HF23.out)
            have hbx := H3.out.blk
            rw [← HN.out] at hbx
            have hqx := HQ3.out
            (obtain ⟨bp0, bp1, bp2, bp3⟩ := box4_ hbx)
            (obtain ⟨bx0, bx1, bx2, bx3, bx4, bx5⟩ := box6_ hqx)
            have hSC : Hid (∀ w', Fr W3 w' → w'.cell? ⟨pb, 1, none⟩ = some (.slice A n c) ∧ w'.cell? ⟨q, 0, none⟩ = some (.int .i64 h.frm) ∧ w'.cell? ⟨q, 1, none⟩ = some (.int .i64 h.seq) ∧ w'.cell? ⟨q, 2, none⟩ = some (.int .i64 h.to) ∧ w'.cell? ⟨q, 3, none⟩ = some (.int .i64 h.till) ∧ w'.cell? ⟨q, 4, none⟩ = some (.int .i64 h.bytes) ∧ w'.cell? ⟨q, 5, none⟩ = some (.int .i64 h.block)) := fun w' hf => ⟨(hf.cell (World.block_lt_of_cell? W3 _ bp1)).trans bp1, (hf.cell (World.block_lt_of_cell? W3 _ bx0)).trans bx0, (hf.cell (World.block_lt_of_cell? W3 _ bx1)).trans bx1, (hf.cell (World.block_lt_of_cell? W3 _ bx2)).trans bx2, (hf.cell (World.block_lt_of_cell? W3 _ bx3)).trans bx3, (hf.cell (World.block_lt_of_cell? W3 _ bx4)).trans bx4, (hf.cell (World.block_lt_of_cell? W3 _ bx5)).trans bx5⟩
            clear hbx hqx bp0 bp1 bp2 bp3 bx0 bx1 bx2 bx3 bx4 bx5
            go_upto_region 15 with fail
            refine last_begin 12 (n := 13) (bs := #[false, false, false, false, false, false, false, false, false, false, false, false, false]) rfl rfl (by kernel_rfl) (S := fun w' => w'.cell? ⟨pb, 1, none⟩ = some (.slice A n c) ∧ w'.cell? ⟨q, 0, none⟩ = some (.int .i64 h.frm) ∧ w'.cell? ⟨q, 1, none⟩ = some (.int .i64 h.seq) ∧ w'.cell? ⟨q, 2, none⟩ = some (.int .i64 h.to) ∧ w'.cell? ⟨q, 3, none⟩ = some (.int .i64 h.till) ∧ w'.cell? ⟨q, 4, none⟩ = some (.int .i64 h.bytes) ∧ w'.cell? ⟨q, 5, none⟩ = some (.int .i64 h.block)) (hSC.out _ (Below.refl _ _).drew) (fun hHeld => ?_)
            ((first | (refine last_skip (i := 0) (a' := ?hA233) (l' := ?hL233) rfl (by kernel_rfl) (by kernel_rfl) (by kernel_rfl) (by kernel_rfl) (fun _ _ _ h => h) (by rfl) (by assumption) ?ha233 ?hl233 ?hh233; (case ha233 => (simp only [Act.put, hq1, hq2, hq3, Option.isNone, Bool.not_true, Bool.not_false]; (try with_reducible rfl))); (case hl233 => (simp only [Act.put, hq1, hq2, hq3, Option.isNone, Bool.not_true, Bool.not_false]; (try with_reducible rfl)))) | (refine last_take (i := 0) (v := ?hV233) (a' := ?hA233) (l' := ?hL233) rfl (by kernel_rfl) (by kernel_rfl) (by kernel_rfl) (by kernel_rfl) (fun _ _ _ h => h) (by rfl) ?hv233 (by assumption) ?ha233 ?hl233 ?hh233; (case hv233 => (intro w hSw; (try dsimp only at hSw); go_simp; (try simp only [run_eql_slice_nil _ 36 _ _ _ _ Try.underlying36, Result.andThen_ok]); (try with_reducible rfl))); (case ha233 => (simp only [Act.put, hq1, hq2, hq3, Option.isNone, Bool.not_true, Bool.not_false]; (try with_reducible rfl))); (case hl233 => (simp only [Act.put, hq1, hq2, hq3, Option.isNone, Bool.not_true, Bool.not_false]; (try with_reducible rfl))))); (first | (refine last_skip (i := 1) (a' := ?hA234) (l' := ?hL234) rfl (by kernel_rfl) (by kernel_rfl) (by kernel_rfl) (by kernel_rfl) (fun _ _ _ h => h) (by rfl) (by assumption) ?ha234 ?hl234 ?hh234; (case ha234 => (simp only [Act.put, hq1, hq2, hq3, Option.isNone, Bool.not_true, Bool.not_false]; (try with_reducible rfl))); (case hl234 => (simp only [Act.put, hq1, hq2, hq3, Option.isNone, Bool.not_true, Bool.not_false]; (try with_reducible rfl)))) | (refine last_take (i := 1) (v := ?hV234) (a' := ?hA234) (l' := ?hL234) rfl (by kernel_rfl) (by kernel_rfl) (by kernel_rfl) (by kernel_rfl) (fun _ _ _ h => h) (by rfl) ?hv234 (by assumption) ?ha234 ?hl234 ?hh234; (case hv234 => (intro w hSw; (try dsimp only at hSw); go_simp; (try simp only [run_eql_slice_nil _ 36 _ _ _ _ Try.underlying36, Result.andThen_ok]); (try with_reducible rfl))); (case ha234 => (simp only [Act.put, hq1, hq2, hq3, Option.isNone, Bool.not_true, Bool.not_false]; (try with_reducible rfl))); (case hl234 => (simp only [Act.put, hq1, hq2, hq3, Option.isNone, Bool.not_true, Bool.not_false]; (try with_reducible rfl))))); (first | (refine last_skip (i := 2) (a' := ?hA235) (l' := ?hL235) rfl (by kernel_rfl) (by kernel_rfl) (by kernel_rfl) (by kernel_rfl) (fun _ _ _ h => h) (by rfl) (by assumption) ?ha235 ?hl235 ?hh235; (case ha235 => (simp only [Act.put, hq1, hq2, hq3, Option.isNone, Bool.not_true, Bool.not_false]; (try with_reducible rfl))); (case hl235 => (simp only [Act.put, hq1, hq2, hq3, Option.isNone, Bool.not_true, Bool.not_false]; (try with_reducible rfl)))) | (refine last_take (i := 2) (v := ?hV235) (a' := ?hA235) (l' := ?hL235) rfl (by kernel_rfl) (by kernel_rfl) (by kernel_rfl) (by kernel_rfl) (fun _ _ _ h => h) (by rfl) ?hv235 (by assumption) ?ha235 ?hl235 ?hh235; (case hv235 => (intro w hSw; (try dsimp only at hSw); go_simp; (try simp only [run_eql_slice_nil _ 36 _ _ _ _ Try.underlying36, Result.andThen_ok]); (try with_reducible rfl))); (case ha235 => (simp only [Act.put, hq1, hq2, hq3, Option.isNone, Bool.not_true, Bool.not_false]; (try with_reducible rfl))); (case hl235 => (simp only [Act.put, hq1, hq2, hq3, Option.isNone, Bool.not_true, Bool.not_false]; (try with_reducible rfl))))); (first | (refine last_skip (i := 3) (a' := ?hA236) (l' := ?hL236) rfl (by kernel_rfl) (by kernel_rfl) (by kernel_rfl) (by kernel_rfl) (fun _ _ _ h => h) (by rfl) (by assumption) ?ha236 ?hl236 ?hh236; (case ha236 => (simp only [Act.put, hq1, hq2, hq3, Option.isNone, Bool.not_true, Bool.not_false]; (try with_reducible rfl))); (case hl236 => (simp only [Act.put, hq1, hq2, hq3, Option.isNone, Bool.not_true, Bool.not_false]; (try with_reducible rfl)))) | (refine last_take (i := 3) (v := ?hV236) (a' := ?hA236) (l' := ?hL236) rfl (by kernel_rfl) (by kernel_rfl) (by kernel_rfl) (by kernel_rfl) (fun _ _ _ h => h) (by rfl) ?hv236 (by assumption) ?ha236 ?hl236 ?hh236; (case hv236 => (intro w hSw; (try dsimp only at hSw); go_simp; (try simp only [run_eql_slice_nil _ 36 _ _ _ _ Try.underlying36, Result.andThen_ok]); (try with_reducible rfl))); (case ha236 => (simp only [Act.put, hq1, hq2, hq3, Option.isNone, Bool.not_true, Bool.not_false]; (try with_reducible rfl))); (case hl236 => (simp only [Act.put, hq1, hq2, hq3, Option.isNone, Bool.not_true, Bool.not_false]; (try with_reducible rfl))))); (first | (refine last_skip (i := 4) (a' := ?hA237) (l' := ?hL237) rfl (by kernel_rfl) (by kernel_rfl) (by kernel_rfl) (by kernel_rfl) (fun _ _ _ h => h) (by rfl) (by assumption) ?ha237 ?hl237 ?hh237; (case ha237 => (simp only [Act.put, hq1, hq2, hq3, Option.isNone, Bool.not_true, Bool.not_false]; (try with_reducible rfl))); (case hl237 => (simp only [Act.put, hq1, hq2, hq3, Option.isNone, Bool.not_true, Bool.not_false]; (try with_reducible rfl)))) | (refine last_take (i := 4) (v := ?hV237) (a' := ?hA237) (l' := ?hL237) rfl (by kernel_rfl) (by kernel_rfl) (by kernel_rfl) (by kernel_rfl) (fun _ _ _ h => h) (by rfl) ?hv237 (by assumption) ?ha237 ?hl237 ?hh237; (case hv237 => (intro w hSw; (try dsimp only at hSw); go_simp; (try simp only [run_eql_slice_nil _ 36 _ _ _ _ Try.underlying36, Result.andThen_ok]); (try with_reducible rfl))); (case ha237 => (simp only [Act.put, hq1, hq2, hq3, Option.isNone, Bool.not_true, Bool.not_false]; (try with_reducible rfl))); (case hl237 => (simp only [Act.put, hq1, hq2, hq3, Option.isNone, Bool.not_true, Bool.not_false]; (try with_reducible rfl))))); (first | (refine last_skip (i := 5) (a' := ?hA238) (l' := ?hL238) rfl (by kernel_rfl) (by kernel_rfl) (by kernel_rfl) (by kernel_rfl) (fun _ _ _ h => h) (by rfl) (by assumption) ?ha238 ?hl238 ?hh238; (case ha238 => (simp only [Act.put, hq1, hq2, hq3, Option.isNone, Bool.not_true, Bool.not_false]; (try with_reducible rfl))); (case hl238 => (simp only [Act.put, hq1, hq2, hq3, Option.isNone, Bool.not_true, Bool.not_false]; (try with_reducible rfl)))) | (refine last_take (i := 5) (v := ?hV238) (a' := ?hA238) (l' := ?hL238) rfl (by kernel_rfl) (by kernel_rfl) (by kernel_rfl) (by kernel_rfl) (fun _ _ _ h => h) (by rfl) ?hv238 (by assumption) ?ha238 ?hl238 ?hh238; (case hv238 => (intro w hSw; (try dsimp only at hSw); go_simp; (try simp only [run_eql_slice_nil _ 36 _ _ _ _ Try.underlying36, Result.andThen_ok]); (try with_reducible rfl))); (case ha238 => (simp only [Act.put, hq1, hq2, hq3, Option.isNone, Bool.not_true, Bool.not_false]; (try with_reducible rfl))); (case hl238 => (simp only [Act.put, hq1, hq2, hq3, Option.isNone, Bool.not_true, Bool.not_false]; (try with_reducible rfl))))); (first | (refine last_skip (i := 6) (a' := ?hA239) (l' := ?hL239) rfl (by kernel_rfl) (by kernel_rfl) (by kernel_rfl) (by kernel_rfl) (fun _ _ _ h => h) (by rfl) (by assumption) ?ha239 ?hl239 ?hh239; (case ha239 => (simp only [Act.put, hq1, hq2, hq3, Option.isNone, Bool.not_true, Bool.not_false]; (try with_reducible rfl))); (case hl239 => (simp only [Act.put, hq1, hq2, hq3, Option.isNone, Bool.not_true, Bool.not_false]; (try with_reducible rfl)))) | (refine last_take (i := 6) (v := ?hV239) (a' := ?hA239) (l' := ?hL239) rfl (by kernel_rfl) (by kernel_rfl) (by kernel_rfl) (by kernel_rfl) (fun _ _ _ h => h) (by rfl) ?hv239 (by assumption) ?ha239 ?hl239 ?hh239; (case hv239 => (intro w hSw; (try dsimp only at hSw); go_simp; (try simp only [run_eql_slice_nil _ 36 _ _ _ _ Try.underlying36, Result.andThen_ok]); (try with_reducible rfl))); (case ha239 => (simp only [Act.put, hq1, hq2, hq3, Option.isNone, Bool.not_true, Bool.not_false]; (try with_reducible rfl))); (case hl239 => (simp only [Act.put, hq1, hq2, hq3, Option.isNone, Bool.not_true, Bool.not_false]; (try with_reducible rfl))))); (first | (refine last_skip (i := 7) (a' := ?hA240) (l' := ?hL240) rfl (by kernel_rfl) (by kernel_rfl) (by kernel_rfl) (by kernel_rfl) (fun _ _ _ h => h) (by rfl) (by assumption) ?ha240 ?hl240 ?hh240; (case ha240 => (simp only [Act.put, hq1, hq2, hq3, Option.isNone, Bool.not_true, Bool.not_false]; (try with_reducible rfl))); (case hl240 => (simp only [Act.put, hq1, hq2, hq3, Option.isNone, Bool.not_true, Bool.not_false]; (try with_reducible rfl)))) | (refine last_take (i := 7) (v := ?hV240) (a' := ?hA240) (l' := ?hL240) rfl (by kernel_rfl) (by kernel_rfl) (by kernel_rfl) (by kernel_rfl) (fun _ _ _ h => h) (by rfl) ?hv240 (by assumption) ?ha240 ?hl240 ?hh240; (case hv240 => (intro w hSw; (try dsimp only at hSw); go_simp; (try simp only [run_eql_slice_nil _ 36 _ _ _ _ Try.underlying36, Result.andThen_ok]); (try with_reducible rfl))); (case ha240 => (simp only [Act.put, hq1, hq2, hq3, Option.isNone, Bool.not_true, Bool.not_false]; (try with_reducible rfl))); (case hl240 => (simp only [Act.put, hq1, hq2, hq3, Option.isNone, Bool.not_true, Bool.not_false]; (try with_reducible rfl))))))
            refine last_one (i := 8) rfl (by kernel_rfl) (fun K hK => ?_)
            go_simp
            have HF5 : Hid (Fr W3 W3.drew) := (Below.refl _ _).drew
            obtain ⟨W6, hW6⟩ : ∃ W6, W6 = (W3.alloc (.cells #[.int .i64 h.frm, .int .i64 h.seq, .int .i64 h.to, .int .i64 h.till, .int .i64 h.bytes, .int .i64 h.block, .bool false, .slice none 0 0, .slice none 0 0, .int .i64 0, .int .i64 0, .int .i64 0, .int .i64 0, .slice none 0 0, .bool false, .bool false] 46)).drew := ⟨_, rfl⟩
            obtain ⟨vb, hvb⟩ : ∃ vb, vb = W3.heap.size := ⟨_, rfl⟩
            have HV6 : Hid (W6.heap[vb]? = some (.cells (kpCells (Kp.fresh h) none 0 0 (.slice none 0 0) (.slice none 0 0)).toArray 46 (0, 0))) := by rw [hW6]; exact heap_d (heap_new hvb)
            have HF36 : Hid (Fr W3 W6) := by rw [hW6]; exact (frAlloc _ _).drew
            have H6 : Hid (PlM W6 base pb p A c) := H3.out.fr HF36.out
            have HO6 : Hid (Own 16 (eHi base eKq) W6 base 46 (.slice A n c) (p.keep.map fun x => (false, x))) := by
              have := H6.out.own.toQ
              rw [← HN.out] at this
              exact this
            have HX6 : Hid (eHi base eKq W6 (fun b => b < W6.heap.size ∧ (Value.slice A n c).ownBlock ≠ some b) (fun j => (kpCells (Kp.fresh h) none 0 0 (.slice none 0 0) (.slice none 0 0))[j]?) (true, Kp.fresh h)) := by
              have w0 : wfI 0 := wfI.mk (by decide)
              exact ⟨eKp_iff.2 ⟨none, 0, 0, none, 0, 0, none, 0, 0, ⟨rfl, rfl, rfl, rfl, rfl, rfl, rfl, rfl, rfl, rfl, rfl, rfl, rfl, rfl, rfl, rfl⟩, ⟨hwh, w0, w0, w0, w0⟩, ⟨⟨by unfold lim; omega, by omega, by unfold maxLen; omega⟩, Sl.nil⟩, ⟨⟨by unfold lim; omega, by omega, by unfold maxLen; omega⟩, Sl.nil⟩, ⟨by unfold lim; omega, by omega, by unfold maxLen; omega⟩, Sl.nil⟩, fun e => ⟨rfl, rfl, rfl⟩⟩
            rw [← hW6, ← hvb]
            have HVB := Lib.hid hvb
            clear hW6 hvb
            (refine last_back hK (a' := ?hA253) (l' := ?hL253) ?ha253 ?hl253 (hSC.out _ HF36.out) (fun hHeld => ?hh253); (case ha253 => first | with_reducible rfl | (simp only [Act.put, hq1, hq2, hq3, Option.isNone, Bool.not_true, Bool.not_false]; (try with_reducible rfl))); (case hl253 => (simp only [Act.put, hq1, hq2, hq3, Option.isNone, Bool.not_true, Bool.not_false]; (try with_reducible rfl))); clear hK K)
            refine last_one (i := 9) rfl (by kernel_rfl) (fun K hK => ?_)
            go_simp
            go_at_call 41
            with_reducible refine (insertKepts_own (N := base) W6 base pa vb (.slice A n c) (p.keep.map fun x => (false, x)) (true, Kp.fresh h) (kpCells (Kp.fresh h) none 0 0 (.slice none 0 0) (.slice none 0 0)) 46 HO6.out (by rw [List.length_map, ← HN.out]; omega) HV6.out (fun e => by have := (HO6.out.ge e).2; have h1 := H3.out.own; rw [← HN.out] at h1; have := (h1.ge e).2; have := HVB.out; omega) rfl (by simp [kpCells, Value.oneCell']) HX6.out (by rw [List.length_map, ← HN.out]; unfold lim; omega) (by have := HF3.out.size; have := HF36.out.size; omega)).mono ?_
            rintro e w7 ⟨v7, rfl, ho7, hg7⟩
            have hno : ∀ b, (Value.slice A n c).ownBlock = some b → base ≤ b ∧ b < w.heap.size := fun b hb => by
              have h1 := H.out.plM.own
              rw [← HN.out] at h1
              exact h1.ge hb
            have hk7 : Chg (fun b => (Value.slice A n c).ownBlock = some b) W6 w7 := ⟨hg7.os, hg7.tape, hg7.output, hg7.size, fun b hb hs => hg7.block b hb fun e => hs e.symm⟩
            have hno1 : ¬ (Value.slice A n c).ownBlock = some pb := fun e => by have := hno _ e; omega
            have hno2 : ¬ (Value.slice A n c).ownBlock = some q := fun e => by have := hno _ e; have := HQW.out; omega
            have hS7 : w7.cell? ⟨pb, 1, none⟩ = some (.slice A n c) ∧ w7.cell? ⟨q, 0, none⟩ = some (.int .i64 h.frm) ∧ w7.cell? ⟨q, 1, none⟩ = some (.int .i64 h.seq) ∧ w7.cell? ⟨q, 2, none⟩ = some (.int .i64 h.to) ∧ w7.cell? ⟨q, 3, none⟩ = some (.int .i64 h.till) ∧ w7.cell? ⟨q, 4, none⟩ = some (.int .i64 h.bytes) ∧ w7.cell? ⟨q, 5, none⟩ = some (.int .i64 h.block) := by
              obtain ⟨k1, k2, k3, k4, k5, k6, k7⟩ := hSC.out _ HF36.out
              exact ⟨(hk7.cell (World.block_lt_of_cell? W6 _ k1) hno1).trans k1, (hk7.cell (World.block_lt_of_cell? W6 _ k2) hno2).trans k2, (hk7.cell (World.block_lt_of_cell? W6 _ k3) hno2).trans k3, (hk7.cell (World.block_lt_of_cell? W6 _ k4) hno2).trans k4, (hk7.cell (World.block_lt_of_cell? W6 _ k5) hno2).trans k5, (hk7.cell (World.block_lt_of_cell? W6 _ k6) hno2).trans k6, (hk7.cell (World.block_lt_of_cell? W6 _ k7) hno2).trans k7⟩
            have hb7 := hk7.blk H6.out.blk hno1
            rw [← HN.out] at hb7
            have hlk : (List.take pa (p.keep.map fun x => (false, x))).length = pa := by rw [List.length_take, List.length_map, ← HN.out]; omega
            have e1 : (List.take pa (p.keep.map fun x => (false, x)) ++ (true, Kp.fresh h) :: List.drop pa (p.keep.map fun x => (false, x))).map (·.2) = insKp p.keep (Kp.fresh h) := by
              unfold insKp
              rw [show placeAt p.keep (Kp.fresh h).h = pa from Hpa.out.symm]
              simp [List.map_take, List.map_drop, List.map_map, Function.comp_def]
            obtain ⟨g7, cap7, T7, rfl, hF7, hT7⟩ := ho7.focNew2 (i := pa) (x := Kp.fresh h) (by rw [List.getElem?_append_right (by rw [hlk]; exact Nat.le_refl _), hlk, Nat.sub_self]; rfl) rfl rfl rfl
            have elen : (List.take pa (p.keep.map fun x => (false, x)) ++ (true, Kp.fresh h) :: List.drop pa (p.keep.map fun x => (false, x))).length = (insKp p.keep (Kp.fresh h)).length := by rw [← e1, List.length_map]
            rw [e1] at hF7
            rw [elen]
            have HF7 := Lib.hid hF7
            have HT7 := Lib.hid hT7
            have HK7 := Lib.hid hk7
            clear e1 elen hlk hF7 hT7
            obtain ⟨ln, hln⟩ : ∃ ln, ln = (insKp p.keep (Kp.fresh h)).length := ⟨_, rfl⟩
            rw [← hln]
            have HLN := Lib.hid hln
            clear hln
            (refine last_back hK (a' := ?hA254) (l' := ?hL254) ?ha254 ?hl254 (hS7) (fun hHeld => ?hh254); (case ha254 => first | with_reducible rfl | (simp only [Act.put, hq1, hq2, hq3, Option.isNone, Bool.not_true, Bool.not_false]; (try with_reducible rfl))); (case hl254 => (simp only [Act.put, hq1, hq2, hq3, Option.isNone, Bool.not_true, Bool.not_false]; (try with_reducible rfl))); clear hK K)
            refine last_one (i := 10) rfl (by kernel_rfl) (fun K hK => ?_)
            go_simp
            (refine last_back hK (a' := ?hA255) (l' := ?hL255) ?ha255 ?hl255 (hS7) (fun hHeld => ?hh255); (case ha255 => first | with_reducible rfl | (simp only [Act.put, hq1, hq2, hq3, Option.isNone, Bool.not_true, Bool.not_false]; (try with_reducible rfl))); (case hl255 => (simp only [Act.put, hq1, hq2, hq3, Option.isNone, Bool.not_true, Bool.not_false]; (try with_reducible rfl))); clear hK K)
            ((first | (refine last_skip (i := 11) (a' := ?hA241) (l' := ?hL241) rfl (by kernel_rfl) (by kernel_rfl) (by kernel_rfl) (by kernel_rfl) (fun _ _ _ h => h) (by rfl) (by assumption) ?ha241 ?hl241 ?hh241; (case ha241 => (simp only [Act.put, hq1, hq2, hq3, Option.isNone, Bool.not_true, Bool.not_false]; (try with_reducible rfl))); (case hl241 => (simp only [Act.put, hq1, hq2, hq3, Option.isNone, Bool.not_true, Bool.not_false]; (try with_reducible rfl)))) | (refine last_take (i := 11) (v := ?hV241) (a' := ?hA241) (l' := ?hL241) rfl (by kernel_rfl) (by kernel_rfl) (by kernel_rfl) (by kernel_rfl) (fun _ _ _ h => h) (by rfl) ?hv241 (by assumption) ?ha241 ?hl241 ?hh241; (case hv241 => (intro w hSw; (try dsimp only at hSw); go_simp; (try simp only [run_eql_slice_nil _ 36 _ _ _ _ Try.underlying36, Result.andThen_ok]); (try with_reducible rfl))); (case ha241 => (simp only [Act.put, hq1, hq2, hq3, Option.isNone, Bool.not_true, Bool.not_false]; (try with_reducible rfl))); (case hl241 => (simp only [Act.put, hq1, hq2, hq3, Option.isNone, Bool.not_true, Bool.not_false]; (try with_reducible rfl))))))
            have y1 := blk_free (i := 1) hb7
            have hpl7 := (Array.getElem?_eq_some_iff.1 hb7).1
            have mp1 := hS7.1
            refine last_one (i := 12) rfl (by kernel_rfl) (fun K hK => ?_)
            go_simp
            refine last_end hK (by kernel_rfl) ?_
            clear hK K
            obtain ⟨W8, hW8⟩ : ∃ W8, W8 = w7.setCell ⟨pb, 1, none⟩ (.slice (some ⟨g7, 0, none⟩) ln cap7) := ⟨_, rfl⟩
            have hb8 : W8.heap[pb]? = some (.cells #[.int .i64 p.me, .slice (some ⟨g7, 0, none⟩) ln cap7, .int .i64 p.time, .int .i64 p.seq] 25 (0, 0)) := by rw [hW8]; have := heap_setCell_same w7 pb 1 _ _ (.slice (some ⟨g7, 0, none⟩) ln cap7) hb7; simpa using this
            have hk8 : Chg (fun b => b = pb) w7 W8 := by rw [hW8]; exact Chg.set (S := fun b => b = pb) (p := ⟨pb, 1, none⟩) (Chg.refl _ _) rfl _
            rw [← hW8]
            (obtain ⟨bp0, bp1, bp2, bp3⟩ := box4_ hb8)
            have hil : pa < ln := by rw [HLN.out]; exact HF7.out.hi
            have HX8 : Hid (Foc0 T7 W8 base g7 cap7 (insKp p.keep (Kp.fresh h)) pa (Kp.fresh h) none 0 0 (.slice none 0 0) (.slice none 0 0)) :=
              ⟨HF7.out.chg hk8 (by have := HF7.out.hbg; omega) (fun b hb => by have := (HF7.out.low b hb).1; omega) (fun b e => (by cases e)) (fun b e => (by cases e)), fun b _ => ⟨fun e => (by cases e), fun e => (by cases e)⟩, fun b e => (by cases e), fun b hb => HT7.out b (Nat.le_trans hk8.size hb)⟩
            have HC8 : Hid (Chg (BunS pb (.slice A p.keep.length c)) w W8) := by
              rw [← HN.out]
              have q1 : Chg (BunS pb (.slice A n c)) w W6 := (HF3.out.trans HF36.out).chg
              have q2 : Chg (BunS pb (.slice A n c)) W6 w7 := HK7.out.more fun b hb => .inr hb
              exact (q1.trans q2).trans (hk8.more fun b hb => .inl hb)
            have HB8 := Lib.hid hb8
            clear hb7 hb8 hk8 hk7 hW8 hS7 y1 hpl7 mp1 hno hno1 hno2 hSC
            go_wp2_with fail
            go_ret2
            refine .inr ⟨insKp p.keep (Kp.fresh h), pa, Kp.fresh h, g7, cap7, none, 0, 0, .slice none 0 0, .slice none 0 0, T7, by rw [E6.out, Hpa.out], rfl, HC8.out, by rw [← HLN.out]; exact HB8.out, HX8.out⟩
end Go.Proofs.Ytojoodmnmhcojaa
