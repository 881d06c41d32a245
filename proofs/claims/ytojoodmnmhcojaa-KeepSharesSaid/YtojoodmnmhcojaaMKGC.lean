/- keep.bundle. No condition. -/
import Derived.Test.YtojoodmnmhcojaaMKGB
import Derived.Test.YtojoodmnmhcojaaMKGA
import Derived.Test.YtojoodmnmhcojaaWayP
import Derived.Laws.StructEq
import Derived.KernelRfl
import Derived.Test.YtojoodmnmhcojaaPlaceP
set_option linter.unusedSimpArgs false
set_option linter.unusedVariables false
namespace Go.Proofs.Ytojoodmnmhcojaa
open Go.RowKit
attribute [local irreducible] wpList

theorem placeAt_step {l : List Kp} {h : Hd} {k : Nat} {x : Kp} (hx : l[k]? = some x) (ha : aheadB x.h h = true) : ((l.drop k).takeWhile fun y => aheadB y.h h).length = 1 + ((l.drop (k + 1)).takeWhile fun y => aheadB y.h h).length := by
  rw [drop_cons hx, List.takeWhile_cons, if_pos ha, List.length_cons]; omega
theorem placeAt_stop {l : List Kp} {h : Hd} {k : Nat} {x : Kp} (hx : l[k]? = some x) (ha : aheadB x.h h = false) : ((l.drop k).takeWhile fun y => aheadB y.h h).length = 0 := by
  rw [drop_cons hx, List.takeWhile_cons, if_neg (by simp [ha])]; rfl
set_option maxRecDepth 100000 in
set_option maxHeartbeats 16000000 in
theorem send_any (w : World) (base pb : Nat) (p : Pc) (A : Option Addr) (c : Nat) (h : PlM w base pb p A c) (h12 : p.keep.length ≤ 12) (hps : 0 ≤ p.seq ∧ p.seq ≤ 50) (r : Rc) (B : Option Addr) (nb cb : Nat) (B2 : Option Addr) (nb2 cb2 : Nat) (hwh : r.h.wf) (hwn : wfI r.n) (hy : Byt w (LT w.heap.size) B2 nb2 cb2 r.cargo) (hb : base ≤ w.heap.size) :
    Calls Try.prog 29 #[.pointer (some ⟨pb, 0, none⟩), .agg #[.int .i64 r.kind, .int .i64 r.place, .int .i64 r.n, .int .i64 r.try_, .int .i64 r.h.frm, .int .i64 r.h.seq, .int .i64 r.h.to, .int .i64 r.h.till, .int .i64 r.h.bytes, .int .i64 r.h.block, .int .i64 r.s.id, .slice B nb cb, .slice B2 nb2 cb2]] w fun e w' => e = .returned (.int .i64 (sendF p r).2) ∧ Chg (PlS base pb) w w' ∧ ∃ A' c', PlM w' base pb (sendF p r).1 A' c' := by
  have E := Lib.hid (sendF.eq_1 p r)
  have hbb := h.blk
  have hpb := h.low
  have H := Lib.hid h
  have HYS := Lib.hid hy.2
  have HYL := Lib.hid hy.1.1
  have HYN := Lib.hid hy.2.1
  have hpl := (Array.getElem?_eq_some_iff.1 hbb).1
  go_enter Try.func29, Try.ntmps29
  go_upto_region 1 with fail
  obtain ⟨W1, hW1⟩ : ∃ W1, W1 = w.alloc (.cells #[.int .i64 r.kind, .int .i64 r.place, .int .i64 r.n, .int .i64 r.try_, .int .i64 r.h.frm, .int .i64 r.h.seq, .int .i64 r.h.to, .int .i64 r.h.till, .int .i64 r.h.bytes, .int .i64 r.h.block, .int .i64 r.s.id, .slice B nb cb, .slice B2 nb2 cb2] 40) := ⟨_, rfl⟩
  obtain ⟨q, hq⟩ : ∃ q, q = w.heap.size := ⟨_, rfl⟩
  have HQ : Hid (W1.heap[q]? = some (.cells #[.int .i64 r.kind, .int .i64 r.place, .int .i64 r.n, .int .i64 r.try_, .int .i64 r.h.frm, .int .i64 r.h.seq, .int .i64 r.h.to, .int .i64 r.h.till, .int .i64 r.h.bytes, .int .i64 r.h.block, .int .i64 r.s.id, .slice B nb cb, .slice B2 nb2 cb2] 40 (0, 0))) := by rw [hW1]; exact heap_new hq
  have HF1 : Hid (Fr w W1) := by rw [hW1]; exact frAlloc _ _
  rw [← hW1, ← hq]
  have HQW : Hid (q = w.heap.size) := hq
  clear hW1 hq h hbb hy
  have hbx := blk_go H.out.blk HF1.out
  have hqx := HQ.out
  (obtain ⟨bp0, bp1, bp2, bp3⟩ := box4_ hbx)
  (obtain ⟨bx0, bx1, bx2, bx3, bx4, bx5, bx6, bx7, bx8, bx9, bx10, bx11, bx12⟩ := box13_ hqx)
  clear hbx hqx
  have fin : ∀ k W, Fr w W → sendF p r = (p, k) → Ending.returned (.int .i64 k) = .returned (.int .i64 (sendF p r).2) ∧ Chg (PlS base pb) w W ∧ ∃ A' c', PlM W base pb (sendF p r).1 A' c' := fun k W hf e => by
    rw [e]; exact ⟨rfl, hf.chg, _, _, H.out.fr hf⟩
  have FIN := Lib.hid fin
  clear fin
  by_cases h1 : r.h.frm = p.me
  case neg =>
    have E1 := Lib.hid (E.out.trans (if_pos h1))
    have t1 : (r.h.frm != p.me) = true := by simp [h1]
    clear E h1
    go_quiet (fail)
    go_wp2_with fail
    go_ret
    exact FIN.out _ _ (by (repeat' (first | exact Below.refl _ _ | refine below_drewN ?_ _ | refine Below.drew ?_ | refine frA ?_ _ | refine Fr.trans ?_ HF1.out))) E1.out
  case pos =>
  have E1 := Lib.hid (E.out.trans (if_neg (fun e => e h1)))
  have t1 : (r.h.frm != p.me) = false := by simp [h1]
  clear E h1
  go_quiet (fail)
  obtain ⟨n1, rfl⟩ : ∃ n1, n1 = nq := ⟨_, rfl⟩
  by_cases h2 : r.h.seq ≠ p.seq ∨ r.h.till ≤ p.time
  case pos =>
    have E2 := Lib.hid (E1.out.trans (if_pos h2))
    clear E1
    by_cases h3 : r.h.seq = p.seq
    · have t2 : (r.h.seq != p.seq) = false := by simp [h3]
      have t3 : decide (r.h.till ≤ p.time) = true := by simp; omega
      clear h2 h3
      go_upto_region 3 with fail
      go_quiet (fail)
      go_wp2_with fail
      go_ret
      exact FIN.out _ _ (by (repeat' (first | exact Below.refl _ _ | refine below_drewN ?_ _ | refine Below.drew ?_ | refine frA ?_ _ | refine Fr.trans ?_ HF1.out))) E2.out
    · have t2 : (r.h.seq != p.seq) = true := by simp [h3]
      clear h2 h3
      go_upto_region 3 with fail
      go_quiet (fail)
      go_wp2_with fail
      go_ret
      exact FIN.out _ _ (by (repeat' (first | exact Below.refl _ _ | refine below_drewN ?_ _ | refine Below.drew ?_ | refine frA ?_ _ | refine Fr.trans ?_ HF1.out))) E2.out
  case neg =>
  have E2 := Lib.hid (E1.out.trans (if_neg h2))
  have t2 : (r.h.seq != p.seq) = false := by simp; omega
  have t3 : decide (r.h.till ≤ p.time) = false := by simp; omega
  clear E1 h2
  go_upto_region 3 with fail
  go_quiet (fail)
  go_upto_region 5 with fail
  obtain ⟨W2, hW2⟩ : ∃ W2, W2 = (W1.drewN n1).drewN nq := ⟨_, rfl⟩
  have HF12 : Hid (Fr W1 W2) := by rw [hW2]; exact below_drewN (below_drewN (Below.refl _ _) _) _
  rw [← hW2]
  have HF2 : Hid (Fr w W2) := HF1.out.trans HF12.out
  clear hW2 t1 t2 t3 bp0 bp1 bp2 bp3 bx0 bx1 bx2 bx3 bx4 bx5 bx6 bx7 bx8 bx9 bx10 bx11 bx12
  have H2 := Lib.hid (H.out.fr HF2.out)
  have HQ2 := Lib.hid (blk_go HQ.out HF12.out)
  have hbx := H2.out.blk
  have hqx := HQ2.out
  (obtain ⟨bp0, bp1, bp2, bp3⟩ := box4_ hbx)
  (obtain ⟨bx0, bx1, bx2, bx3, bx4, bx5, bx6, bx7, bx8, bx9, bx10, bx11, bx12⟩ := box13_ hqx)
  clear hbx hqx HQ HF12 HF1
  by_cases h4 : r.n < 1 ∨ 64 < r.n
  case pos =>
    have E3 := Lib.hid (E2.out.trans (if_pos h4))
    clear E2
    by_cases h5 : r.n < 1
    · have t4 : decide (r.n < 1) = true := by simp [h5]
      clear h4 h5
      go_wp2_with fail
      go_ret
      exact FIN.out _ _ HF2.out E3.out
    · have t4 : decide (r.n < 1) = false := by simp; omega
      have t5 : decide (64 < r.n) = true := by simp; omega
      clear h4 h5
      go_wp2_with fail
      go_ret
      exact FIN.out _ _ HF2.out E3.out
  case neg =>
  have E3 := Lib.hid (E2.out.trans (if_neg h4))
  have t4 : decide (r.n < 1) = false := by simp; omega
  have t5 : decide (64 < r.n) = false := by simp; omega
  clear E2 h4
  obtain ⟨n, hn⟩ : ∃ n, n = p.keep.length := ⟨_, rfl⟩
  rw [← hn] at h12 bp1 E3
  by_cases h6 : n = 12
  case pos =>
    have E4 := Lib.hid (E3.out.trans (if_pos h6))
    have t6 : ((n : Int) == 12) = true := by simp [h6]
    clear E3 h6
    go_wp2_with fail
    go_ret
    exact FIN.out _ _ HF2.out E4.out
  case neg =>
  have E4 := Lib.hid (E3.out.trans (if_neg h6))
  have t6 : ((n : Int) == 12) = false := by simp; omega
  have h11 : n ≤ 11 := by omega
  have HN := Lib.hid hn
  clear E3 h6 h12 hn FIN
  obtain ⟨A9, c9, e9, ⟨hc9, hm9⟩, hsl⟩ := (H2.out.own.ofHi sKp).slC sKp (by decide)
  injection e9 with e9 _ e10
  subst e9 e10
  rw [← HN.out] at hsl hc9
  have HSL := Lib.hid hsl
  obtain ⟨pa, hpa⟩ : ∃ pa, pa = placeAt p.keep r.h := ⟨_, rfl⟩
  have HPA : Hid (pa = 0 + ((p.keep.drop 0).takeWhile fun y => aheadB y.h r.h).length) := by rw [Hid, List.drop_zero, hpa, Nat.zero_add]; rfl
  (have Hpa := Lib.hid hpa; clear hpa)
  clear hsl
  go_upto_region 9 with fail
  go_wp2_with fail
  go_loopw [5] (fun s5 wr => ∃ k : Nat, k ≤ n ∧ s5 = .int .i64 k ∧ Hid (pa = k + ((p.keep.drop k).takeWhile fun y => aheadB y.h r.h).length) ∧ Hid (Fr W2 wr)) (fun i _ => n - (intOf i).toNat)
  case atStart => exact ⟨0, Nat.zero_le _, rfl, HPA, Below.refl _ _⟩
  case round =>
    obtain ⟨k, hk, rfl, HS, HF⟩ := hrel
    have hbx := (H2.out.fr HF.out).blk
    rw [← HN.out] at hbx
    have hqx := blk_go HQ2.out HF.out
    clear bp0 bp1 bp2 bp3 bx0 bx1 bx2 bx3 bx4 bx5 bx6 bx7 bx8 bx9 bx10 bx11 bx12
    (obtain ⟨bp0, bp1, bp2, bp3⟩ := box4_ hbx)
    (obtain ⟨bx0, bx1, bx2, bx3, bx4, bx5, bx6, bx7, bx8, bx9, bx10, bx11, bx12⟩ := box13_ hqx)
    clear hbx hqx bp0 bp2 bp3 bx0 bx1 bx2 bx3 bx10 bx11 bx12
    by_cases hlt : k < n
    · obtain ⟨ad, hAd, hE⟩ := (HSL.out.go sKp HF.out).els (by omega)
      subst hAd
      obtain ⟨y, hy, hr⟩ := hE.row hlt
      obtain ⟨A1, n1', c1, A2, n2, c2, A3, n3, c3, ⟨m0, m1, m2, m3, m4, m5, _⟩, _⟩ := eKp_at hr
      have hSC : Hid (∀ w', Fr wr w' → w'.cell? ⟨pb, 1, none⟩ = some (.slice (some ad) n c) ∧ w'.cell? (ad.add (k * 16)) = some (.int .i64 y.h.frm) ∧ w'.cell? ⟨(ad.add (k * 16)).block, (ad.add (k * 16)).off + 1, none⟩ = some (.int .i64 y.h.seq) ∧ w'.cell? ⟨(ad.add (k * 16)).block, (ad.add (k * 16)).off + 2, none⟩ = some (.int .i64 y.h.to) ∧ w'.cell? ⟨(ad.add (k * 16)).block, (ad.add (k * 16)).off + 3, none⟩ = some (.int .i64 y.h.till) ∧ w'.cell? ⟨(ad.add (k * 16)).block, (ad.add (k * 16)).off + 4, none⟩ = some (.int .i64 y.h.bytes) ∧ w'.cell? ⟨(ad.add (k * 16)).block, (ad.add (k * 16)).off + 5, none⟩ = some (.int .i64 y.h.block) ∧ w'.cell? ⟨q, 4, none⟩ = some (.int .i64 r.h.frm) ∧ w'.cell? ⟨q, 5, none⟩ = some (.int .i64 r.h.seq) ∧ w'.cell? ⟨q, 6, none⟩ = some (.int .i64 r.h.to) ∧ w'.cell? ⟨q, 7, none⟩ = some (.int .i64 r.h.till) ∧ w'.cell? ⟨q, 8, none⟩ = some (.int .i64 r.h.bytes) ∧ w'.cell? ⟨q, 9, none⟩ = some (.int .i64 r.h.block)) := fun w' hf => ⟨(hf.cell (World.block_lt_of_cell? wr _ bp1)).trans bp1, (hf.cell (World.block_lt_of_cell? wr _ m0)).trans m0, (hf.cell (World.block_lt_of_cell? wr _ m1)).trans m1, (hf.cell (World.block_lt_of_cell? wr _ m2)).trans m2, (hf.cell (World.block_lt_of_cell? wr _ m3)).trans m3, (hf.cell (World.block_lt_of_cell? wr _ m4)).trans m4, (hf.cell (World.block_lt_of_cell? wr _ m5)).trans m5, (hf.cell (World.block_lt_of_cell? wr _ bx4)).trans bx4, (hf.cell (World.block_lt_of_cell? wr _ bx5)).trans bx5, (hf.cell (World.block_lt_of_cell? wr _ bx6)).trans bx6, (hf.cell (World.block_lt_of_cell? wr _ bx7)).trans bx7, (hf.cell (World.block_lt_of_cell? wr _ bx8)).trans bx8, (hf.cell (World.block_lt_of_cell? wr _ bx9)).trans bx9⟩
      obtain ⟨ab, hab⟩ : ∃ ab, ab = aheadB y.h r.h := ⟨_, rfl⟩
      have AH : Hid (∀ W, Calls Try.prog 16 #[.agg #[.int .i64 y.h.frm, .int .i64 y.h.seq, .int .i64 y.h.to, .int .i64 y.h.till, .int .i64 y.h.bytes, .int .i64 y.h.block], .agg #[.int .i64 r.h.frm, .int .i64 r.h.seq, .int .i64 r.h.to, .int .i64 r.h.till, .int .i64 r.h.bytes, .int .i64 r.h.block]] W fun e w' => e = .returned (.bool ab) ∧ Fr W w') := fun W => by rw [hab]; exact ahead_any W _ _
      have hlt2 : (k : Int) < (n : Int) := by omega
      have HYY := Lib.hid hy
      have HAB := Lib.hid hab
      clear hE hy hr hab m0 m1 m2 m3 m4 m5 bp1 bx4 bx5 bx6 bx7 bx8 bx9
      go_upto_region 10 with fail
      refine held_begin (n := 20) (bs := #[false, false, false, false, false, false, false, false, false, false, false, false, false, false, false, false, false, false, false, false]) rfl rfl (by kernel_rfl) (S := fun w' => w'.cell? ⟨pb, 1, none⟩ = some (.slice (some ad) n c) ∧ w'.cell? (ad.add (k * 16)) = some (.int .i64 y.h.frm) ∧ w'.cell? ⟨(ad.add (k * 16)).block, (ad.add (k * 16)).off + 1, none⟩ = some (.int .i64 y.h.seq) ∧ w'.cell? ⟨(ad.add (k * 16)).block, (ad.add (k * 16)).off + 2, none⟩ = some (.int .i64 y.h.to) ∧ w'.cell? ⟨(ad.add (k * 16)).block, (ad.add (k * 16)).off + 3, none⟩ = some (.int .i64 y.h.till) ∧ w'.cell? ⟨(ad.add (k * 16)).block, (ad.add (k * 16)).off + 4, none⟩ = some (.int .i64 y.h.bytes) ∧ w'.cell? ⟨(ad.add (k * 16)).block, (ad.add (k * 16)).off + 5, none⟩ = some (.int .i64 y.h.block) ∧ w'.cell? ⟨q, 4, none⟩ = some (.int .i64 r.h.frm) ∧ w'.cell? ⟨q, 5, none⟩ = some (.int .i64 r.h.seq) ∧ w'.cell? ⟨q, 6, none⟩ = some (.int .i64 r.h.to) ∧ w'.cell? ⟨q, 7, none⟩ = some (.int .i64 r.h.till) ∧ w'.cell? ⟨q, 8, none⟩ = some (.int .i64 r.h.bytes) ∧ w'.cell? ⟨q, 9, none⟩ = some (.int .i64 r.h.block)) (hSC.out _ (Below.refl _ _).drew) (fun hHeld => ?_)
      ((first | (refine held_skip (i := 0) (a' := ?hA23) (l' := ?hL23) rfl (by kernel_rfl) (by kernel_rfl) (by kernel_rfl) (fun _ _ _ h => h) (by rfl) (by assumption) ?ha23 ?hl23 ?hh23; (case ha23 => (simp only [Act.put, hq1, hq2, hq3, Option.isNone, Bool.not_true, Bool.not_false]; (try with_reducible rfl))); (case hl23 => (simp only [Act.put, hq1, hq2, hq3, Option.isNone, Bool.not_true, Bool.not_false]; (try with_reducible rfl)))) | (refine held_take (i := 0) (v := ?hV23) (a' := ?hA23) (l' := ?hL23) rfl (by kernel_rfl) (by kernel_rfl) (by kernel_rfl) (fun _ _ _ h => h) (by rfl) ?hv23 (by assumption) ?ha23 ?hl23 ?hh23; (case hv23 => (intro w hSw; (try dsimp only at hSw); go_simp; (try simp only [run_eql_slice_nil _ 36 _ _ _ _ Try.underlying36, Result.andThen_ok]); (try with_reducible rfl))); (case ha23 => (simp only [Act.put, hq1, hq2, hq3, Option.isNone, Bool.not_true, Bool.not_false]; (try with_reducible rfl))); (case hl23 => (simp only [Act.put, hq1, hq2, hq3, Option.isNone, Bool.not_true, Bool.not_false]; (try with_reducible rfl))))); (first | (refine held_skip (i := 1) (a' := ?hA24) (l' := ?hL24) rfl (by kernel_rfl) (by kernel_rfl) (by kernel_rfl) (fun _ _ _ h => h) (by rfl) (by assumption) ?ha24 ?hl24 ?hh24; (case ha24 => (simp only [Act.put, hq1, hq2, hq3, Option.isNone, Bool.not_true, Bool.not_false]; (try with_reducible rfl))); (case hl24 => (simp only [Act.put, hq1, hq2, hq3, Option.isNone, Bool.not_true, Bool.not_false]; (try with_reducible rfl)))) | (refine held_take (i := 1) (v := ?hV24) (a' := ?hA24) (l' := ?hL24) rfl (by kernel_rfl) (by kernel_rfl) (by kernel_rfl) (fun _ _ _ h => h) (by rfl) ?hv24 (by assumption) ?ha24 ?hl24 ?hh24; (case hv24 => (intro w hSw; (try dsimp only at hSw); go_simp; (try simp only [run_eql_slice_nil _ 36 _ _ _ _ Try.underlying36, Result.andThen_ok]); (try with_reducible rfl))); (case ha24 => (simp only [Act.put, hq1, hq2, hq3, Option.isNone, Bool.not_true, Bool.not_false]; (try with_reducible rfl))); (case hl24 => (simp only [Act.put, hq1, hq2, hq3, Option.isNone, Bool.not_true, Bool.not_false]; (try with_reducible rfl))))); (first | (refine held_skip (i := 2) (a' := ?hA25) (l' := ?hL25) rfl (by kernel_rfl) (by kernel_rfl) (by kernel_rfl) (fun _ _ _ h => h) (by rfl) (by assumption) ?ha25 ?hl25 ?hh25; (case ha25 => (simp only [Act.put, hq1, hq2, hq3, Option.isNone, Bool.not_true, Bool.not_false]; (try with_reducible rfl))); (case hl25 => (simp only [Act.put, hq1, hq2, hq3, Option.isNone, Bool.not_true, Bool.not_false]; (try with_reducible rfl)))) | (refine held_take (i := 2) (v := ?hV25) (a' := ?hA25) (l' := ?hL25) rfl (by kernel_rfl) (by kernel_rfl) (by kernel_rfl) (fun _ _ _ h => h) (by rfl) ?hv25 (by assumption) ?ha25 ?hl25 ?hh25; (case hv25 => (intro w hSw; (try dsimp only at hSw); go_simp; (try simp only [run_eql_slice_nil _ 36 _ _ _ _ Try.underlying36, Result.andThen_ok]); (try with_reducible rfl))); (case ha25 => (simp only [Act.put, hq1, hq2, hq3, Option.isNone, Bool.not_true, Bool.not_false]; (try with_reducible rfl))); (case hl25 => (simp only [Act.put, hq1, hq2, hq3, Option.isNone, Bool.not_true, Bool.not_false]; (try with_reducible rfl))))); (first | (refine held_skip (i := 3) (a' := ?hA26) (l' := ?hL26) rfl (by kernel_rfl) (by kernel_rfl) (by kernel_rfl) (fun _ _ _ h => h) (by rfl) (by assumption) ?ha26 ?hl26 ?hh26; (case ha26 => (simp only [Act.put, hq1, hq2, hq3, Option.isNone, Bool.not_true, Bool.not_false]; (try with_reducible rfl))); (case hl26 => (simp only [Act.put, hq1, hq2, hq3, Option.isNone, Bool.not_true, Bool.not_false]; (try with_reducible rfl)))) | (refine held_take (i := 3) (v := ?hV26) (a' := ?hA26) (l' := ?hL26) rfl (by kernel_rfl) (by kernel_rfl) (by kernel_rfl) (fun _ _ _ h => h) (by rfl) ?hv26 (by assumption) ?ha26 ?hl26 ?hh26; (case hv26 => (intro w hSw; (try dsimp only at hSw); go_simp; (try simp only [run_eql_slice_nil _ 36 _ _ _ _ Try.underlying36, Result.andThen_ok]); (try with_reducible rfl))); (case ha26 => (simp only [Act.put, hq1, hq2, hq3, Option.isNone, Bool.not_true, Bool.not_false]; (try with_reducible rfl))); (case hl26 => (simp only [Act.put, hq1, hq2, hq3, Option.isNone, Bool.not_true, Bool.not_false]; (try with_reducible rfl))))); (first | (refine held_skip (i := 4) (a' := ?hA27) (l' := ?hL27) rfl (by kernel_rfl) (by kernel_rfl) (by kernel_rfl) (fun _ _ _ h => h) (by rfl) (by assumption) ?ha27 ?hl27 ?hh27; (case ha27 => (simp only [Act.put, hq1, hq2, hq3, Option.isNone, Bool.not_true, Bool.not_false]; (try with_reducible rfl))); (case hl27 => (simp only [Act.put, hq1, hq2, hq3, Option.isNone, Bool.not_true, Bool.not_false]; (try with_reducible rfl)))) | (refine held_take (i := 4) (v := ?hV27) (a' := ?hA27) (l' := ?hL27) rfl (by kernel_rfl) (by kernel_rfl) (by kernel_rfl) (fun _ _ _ h => h) (by rfl) ?hv27 (by assumption) ?ha27 ?hl27 ?hh27; (case hv27 => (intro w hSw; (try dsimp only at hSw); go_simp; (try simp only [run_eql_slice_nil _ 36 _ _ _ _ Try.underlying36, Result.andThen_ok]); (try with_reducible rfl))); (case ha27 => (simp only [Act.put, hq1, hq2, hq3, Option.isNone, Bool.not_true, Bool.not_false]; (try with_reducible rfl))); (case hl27 => (simp only [Act.put, hq1, hq2, hq3, Option.isNone, Bool.not_true, Bool.not_false]; (try with_reducible rfl))))); (first | (refine held_skip (i := 5) (a' := ?hA28) (l' := ?hL28) rfl (by kernel_rfl) (by kernel_rfl) (by kernel_rfl) (fun _ _ _ h => h) (by rfl) (by assumption) ?ha28 ?hl28 ?hh28; (case ha28 => (simp only [Act.put, hq1, hq2, hq3, Option.isNone, Bool.not_true, Bool.not_false]; (try with_reducible rfl))); (case hl28 => (simp only [Act.put, hq1, hq2, hq3, Option.isNone, Bool.not_true, Bool.not_false]; (try with_reducible rfl)))) | (refine held_take (i := 5) (v := ?hV28) (a' := ?hA28) (l' := ?hL28) rfl (by kernel_rfl) (by kernel_rfl) (by kernel_rfl) (fun _ _ _ h => h) (by rfl) ?hv28 (by assumption) ?ha28 ?hl28 ?hh28; (case hv28 => (intro w hSw; (try dsimp only at hSw); go_simp; (try simp only [run_eql_slice_nil _ 36 _ _ _ _ Try.underlying36, Result.andThen_ok]); (try with_reducible rfl))); (case ha28 => (simp only [Act.put, hq1, hq2, hq3, Option.isNone, Bool.not_true, Bool.not_false]; (try with_reducible rfl))); (case hl28 => (simp only [Act.put, hq1, hq2, hq3, Option.isNone, Bool.not_true, Bool.not_false]; (try with_reducible rfl))))); (first | (refine held_skip (i := 6) (a' := ?hA29) (l' := ?hL29) rfl (by kernel_rfl) (by kernel_rfl) (by kernel_rfl) (fun _ _ _ h => h) (by rfl) (by assumption) ?ha29 ?hl29 ?hh29; (case ha29 => (simp only [Act.put, hq1, hq2, hq3, Option.isNone, Bool.not_true, Bool.not_false]; (try with_reducible rfl))); (case hl29 => (simp only [Act.put, hq1, hq2, hq3, Option.isNone, Bool.not_true, Bool.not_false]; (try with_reducible rfl)))) | (refine held_take (i := 6) (v := ?hV29) (a' := ?hA29) (l' := ?hL29) rfl (by kernel_rfl) (by kernel_rfl) (by kernel_rfl) (fun _ _ _ h => h) (by rfl) ?hv29 (by assumption) ?ha29 ?hl29 ?hh29; (case hv29 => (intro w hSw; (try dsimp only at hSw); go_simp; (try simp only [run_eql_slice_nil _ 36 _ _ _ _ Try.underlying36, Result.andThen_ok]); (try with_reducible rfl))); (case ha29 => (simp only [Act.put, hq1, hq2, hq3, Option.isNone, Bool.not_true, Bool.not_false]; (try with_reducible rfl))); (case hl29 => (simp only [Act.put, hq1, hq2, hq3, Option.isNone, Bool.not_true, Bool.not_false]; (try with_reducible rfl))))); (first | (refine held_skip (i := 7) (a' := ?hA30) (l' := ?hL30) rfl (by kernel_rfl) (by kernel_rfl) (by kernel_rfl) (fun _ _ _ h => h) (by rfl) (by assumption) ?ha30 ?hl30 ?hh30; (case ha30 => (simp only [Act.put, hq1, hq2, hq3, Option.isNone, Bool.not_true, Bool.not_false]; (try with_reducible rfl))); (case hl30 => (simp only [Act.put, hq1, hq2, hq3, Option.isNone, Bool.not_true, Bool.not_false]; (try with_reducible rfl)))) | (refine held_take (i := 7) (v := ?hV30) (a' := ?hA30) (l' := ?hL30) rfl (by kernel_rfl) (by kernel_rfl) (by kernel_rfl) (fun _ _ _ h => h) (by rfl) ?hv30 (by assumption) ?ha30 ?hl30 ?hh30; (case hv30 => (intro w hSw; (try dsimp only at hSw); go_simp; (try simp only [run_eql_slice_nil _ 36 _ _ _ _ Try.underlying36, Result.andThen_ok]); (try with_reducible rfl))); (case ha30 => (simp only [Act.put, hq1, hq2, hq3, Option.isNone, Bool.not_true, Bool.not_false]; (try with_reducible rfl))); (case hl30 => (simp only [Act.put, hq1, hq2, hq3, Option.isNone, Bool.not_true, Bool.not_false]; (try with_reducible rfl))))); (first | (refine held_skip (i := 8) (a' := ?hA31) (l' := ?hL31) rfl (by kernel_rfl) (by kernel_rfl) (by kernel_rfl) (fun _ _ _ h => h) (by rfl) (by assumption) ?ha31 ?hl31 ?hh31; (case ha31 => (simp only [Act.put, hq1, hq2, hq3, Option.isNone, Bool.not_true, Bool.not_false]; (try with_reducible rfl))); (case hl31 => (simp only [Act.put, hq1, hq2, hq3, Option.isNone, Bool.not_true, Bool.not_false]; (try with_reducible rfl)))) | (refine held_take (i := 8) (v := ?hV31) (a' := ?hA31) (l' := ?hL31) rfl (by kernel_rfl) (by kernel_rfl) (by kernel_rfl) (fun _ _ _ h => h) (by rfl) ?hv31 (by assumption) ?ha31 ?hl31 ?hh31; (case hv31 => (intro w hSw; (try dsimp only at hSw); go_simp; (try simp only [run_eql_slice_nil _ 36 _ _ _ _ Try.underlying36, Result.andThen_ok]); (try with_reducible rfl))); (case ha31 => (simp only [Act.put, hq1, hq2, hq3, Option.isNone, Bool.not_true, Bool.not_false]; (try with_reducible rfl))); (case hl31 => (simp only [Act.put, hq1, hq2, hq3, Option.isNone, Bool.not_true, Bool.not_false]; (try with_reducible rfl))))); (first | (refine held_skip (i := 9) (a' := ?hA32) (l' := ?hL32) rfl (by kernel_rfl) (by kernel_rfl) (by kernel_rfl) (fun _ _ _ h => h) (by rfl) (by assumption) ?ha32 ?hl32 ?hh32; (case ha32 => (simp only [Act.put, hq1, hq2, hq3, Option.isNone, Bool.not_true, Bool.not_false]; (try with_reducible rfl))); (case hl32 => (simp only [Act.put, hq1, hq2, hq3, Option.isNone, Bool.not_true, Bool.not_false]; (try with_reducible rfl)))) | (refine held_take (i := 9) (v := ?hV32) (a' := ?hA32) (l' := ?hL32) rfl (by kernel_rfl) (by kernel_rfl) (by kernel_rfl) (fun _ _ _ h => h) (by rfl) ?hv32 (by assumption) ?ha32 ?hl32 ?hh32; (case hv32 => (intro w hSw; (try dsimp only at hSw); go_simp; (try simp only [run_eql_slice_nil _ 36 _ _ _ _ Try.underlying36, Result.andThen_ok]); (try with_reducible rfl))); (case ha32 => (simp only [Act.put, hq1, hq2, hq3, Option.isNone, Bool.not_true, Bool.not_false]; (try with_reducible rfl))); (case hl32 => (simp only [Act.put, hq1, hq2, hq3, Option.isNone, Bool.not_true, Bool.not_false]; (try with_reducible rfl))))); (first | (refine held_skip (i := 10) (a' := ?hA33) (l' := ?hL33) rfl (by kernel_rfl) (by kernel_rfl) (by kernel_rfl) (fun _ _ _ h => h) (by rfl) (by assumption) ?ha33 ?hl33 ?hh33; (case ha33 => (simp only [Act.put, hq1, hq2, hq3, Option.isNone, Bool.not_true, Bool.not_false]; (try with_reducible rfl))); (case hl33 => (simp only [Act.put, hq1, hq2, hq3, Option.isNone, Bool.not_true, Bool.not_false]; (try with_reducible rfl)))) | (refine held_take (i := 10) (v := ?hV33) (a' := ?hA33) (l' := ?hL33) rfl (by kernel_rfl) (by kernel_rfl) (by kernel_rfl) (fun _ _ _ h => h) (by rfl) ?hv33 (by assumption) ?ha33 ?hl33 ?hh33; (case hv33 => (intro w hSw; (try dsimp only at hSw); go_simp; (try simp only [run_eql_slice_nil _ 36 _ _ _ _ Try.underlying36, Result.andThen_ok]); (try with_reducible rfl))); (case ha33 => (simp only [Act.put, hq1, hq2, hq3, Option.isNone, Bool.not_true, Bool.not_false]; (try with_reducible rfl))); (case hl33 => (simp only [Act.put, hq1, hq2, hq3, Option.isNone, Bool.not_true, Bool.not_false]; (try with_reducible rfl))))); (first | (refine held_skip (i := 11) (a' := ?hA34) (l' := ?hL34) rfl (by kernel_rfl) (by kernel_rfl) (by kernel_rfl) (fun _ _ _ h => h) (by rfl) (by assumption) ?ha34 ?hl34 ?hh34; (case ha34 => (simp only [Act.put, hq1, hq2, hq3, Option.isNone, Bool.not_true, Bool.not_false]; (try with_reducible rfl))); (case hl34 => (simp only [Act.put, hq1, hq2, hq3, Option.isNone, Bool.not_true, Bool.not_false]; (try with_reducible rfl)))) | (refine held_take (i := 11) (v := ?hV34) (a' := ?hA34) (l' := ?hL34) rfl (by kernel_rfl) (by kernel_rfl) (by kernel_rfl) (fun _ _ _ h => h) (by rfl) ?hv34 (by assumption) ?ha34 ?hl34 ?hh34; (case hv34 => (intro w hSw; (try dsimp only at hSw); go_simp; (try simp only [run_eql_slice_nil _ 36 _ _ _ _ Try.underlying36, Result.andThen_ok]); (try with_reducible rfl))); (case ha34 => (simp only [Act.put, hq1, hq2, hq3, Option.isNone, Bool.not_true, Bool.not_false]; (try with_reducible rfl))); (case hl34 => (simp only [Act.put, hq1, hq2, hq3, Option.isNone, Bool.not_true, Bool.not_false]; (try with_reducible rfl))))); (first | (refine held_skip (i := 12) (a' := ?hA35) (l' := ?hL35) rfl (by kernel_rfl) (by kernel_rfl) (by kernel_rfl) (fun _ _ _ h => h) (by rfl) (by assumption) ?ha35 ?hl35 ?hh35; (case ha35 => (simp only [Act.put, hq1, hq2, hq3, Option.isNone, Bool.not_true, Bool.not_false]; (try with_reducible rfl))); (case hl35 => (simp only [Act.put, hq1, hq2, hq3, Option.isNone, Bool.not_true, Bool.not_false]; (try with_reducible rfl)))) | (refine held_take (i := 12) (v := ?hV35) (a' := ?hA35) (l' := ?hL35) rfl (by kernel_rfl) (by kernel_rfl) (by kernel_rfl) (fun _ _ _ h => h) (by rfl) ?hv35 (by assumption) ?ha35 ?hl35 ?hh35; (case hv35 => (intro w hSw; (try dsimp only at hSw); go_simp; (try simp only [run_eql_slice_nil _ 36 _ _ _ _ Try.underlying36, Result.andThen_ok]); (try with_reducible rfl))); (case ha35 => (simp only [Act.put, hq1, hq2, hq3, Option.isNone, Bool.not_true, Bool.not_false]; (try with_reducible rfl))); (case hl35 => (simp only [Act.put, hq1, hq2, hq3, Option.isNone, Bool.not_true, Bool.not_false]; (try with_reducible rfl))))); (first | (refine held_skip (i := 13) (a' := ?hA36) (l' := ?hL36) rfl (by kernel_rfl) (by kernel_rfl) (by kernel_rfl) (fun _ _ _ h => h) (by rfl) (by assumption) ?ha36 ?hl36 ?hh36; (case ha36 => (simp only [Act.put, hq1, hq2, hq3, Option.isNone, Bool.not_true, Bool.not_false]; (try with_reducible rfl))); (case hl36 => (simp only [Act.put, hq1, hq2, hq3, Option.isNone, Bool.not_true, Bool.not_false]; (try with_reducible rfl)))) | (refine held_take (i := 13) (v := ?hV36) (a' := ?hA36) (l' := ?hL36) rfl (by kernel_rfl) (by kernel_rfl) (by kernel_rfl) (fun _ _ _ h => h) (by rfl) ?hv36 (by assumption) ?ha36 ?hl36 ?hh36; (case hv36 => (intro w hSw; (try dsimp only at hSw); go_simp; (try simp only [run_eql_slice_nil _ 36 _ _ _ _ Try.underlying36, Result.andThen_ok]); (try with_reducible rfl))); (case ha36 => (simp only [Act.put, hq1, hq2, hq3, Option.isNone, Bool.not_true, Bool.not_false]; (try with_reducible rfl))); (case hl36 => (simp only [Act.put, hq1, hq2, hq3, Option.isNone, Bool.not_true, Bool.not_false]; (try with_reducible rfl))))); (first | (refine held_skip (i := 14) (a' := ?hA37) (l' := ?hL37) rfl (by kernel_rfl) (by kernel_rfl) (by kernel_rfl) (fun _ _ _ h => h) (by rfl) (by assumption) ?ha37 ?hl37 ?hh37; (case ha37 => (simp only [Act.put, hq1, hq2, hq3, Option.isNone, Bool.not_true, Bool.not_false]; (try with_reducible rfl))); (case hl37 => (simp only [Act.put, hq1, hq2, hq3, Option.isNone, Bool.not_true, Bool.not_false]; (try with_reducible rfl)))) | (refine held_take (i := 14) (v := ?hV37) (a' := ?hA37) (l' := ?hL37) rfl (by kernel_rfl) (by kernel_rfl) (by kernel_rfl) (fun _ _ _ h => h) (by rfl) ?hv37 (by assumption) ?ha37 ?hl37 ?hh37; (case hv37 => (intro w hSw; (try dsimp only at hSw); go_simp; (try simp only [run_eql_slice_nil _ 36 _ _ _ _ Try.underlying36, Result.andThen_ok]); (try with_reducible rfl))); (case ha37 => (simp only [Act.put, hq1, hq2, hq3, Option.isNone, Bool.not_true, Bool.not_false]; (try with_reducible rfl))); (case hl37 => (simp only [Act.put, hq1, hq2, hq3, Option.isNone, Bool.not_true, Bool.not_false]; (try with_reducible rfl))))); (first | (refine held_skip (i := 15) (a' := ?hA38) (l' := ?hL38) rfl (by kernel_rfl) (by kernel_rfl) (by kernel_rfl) (fun _ _ _ h => h) (by rfl) (by assumption) ?ha38 ?hl38 ?hh38; (case ha38 => (simp only [Act.put, hq1, hq2, hq3, Option.isNone, Bool.not_true, Bool.not_false]; (try with_reducible rfl))); (case hl38 => (simp only [Act.put, hq1, hq2, hq3, Option.isNone, Bool.not_true, Bool.not_false]; (try with_reducible rfl)))) | (refine held_take (i := 15) (v := ?hV38) (a' := ?hA38) (l' := ?hL38) rfl (by kernel_rfl) (by kernel_rfl) (by kernel_rfl) (fun _ _ _ h => h) (by rfl) ?hv38 (by assumption) ?ha38 ?hl38 ?hh38; (case hv38 => (intro w hSw; (try dsimp only at hSw); go_simp; (try simp only [run_eql_slice_nil _ 36 _ _ _ _ Try.underlying36, Result.andThen_ok]); (try with_reducible rfl))); (case ha38 => (simp only [Act.put, hq1, hq2, hq3, Option.isNone, Bool.not_true, Bool.not_false]; (try with_reducible rfl))); (case hl38 => (simp only [Act.put, hq1, hq2, hq3, Option.isNone, Bool.not_true, Bool.not_false]; (try with_reducible rfl))))); (first | (refine held_skip (i := 16) (a' := ?hA39) (l' := ?hL39) rfl (by kernel_rfl) (by kernel_rfl) (by kernel_rfl) (fun _ _ _ h => h) (by rfl) (by assumption) ?ha39 ?hl39 ?hh39; (case ha39 => (simp only [Act.put, hq1, hq2, hq3, Option.isNone, Bool.not_true, Bool.not_false]; (try with_reducible rfl))); (case hl39 => (simp only [Act.put, hq1, hq2, hq3, Option.isNone, Bool.not_true, Bool.not_false]; (try with_reducible rfl)))) | (refine held_take (i := 16) (v := ?hV39) (a' := ?hA39) (l' := ?hL39) rfl (by kernel_rfl) (by kernel_rfl) (by kernel_rfl) (fun _ _ _ h => h) (by rfl) ?hv39 (by assumption) ?ha39 ?hl39 ?hh39; (case hv39 => (intro w hSw; (try dsimp only at hSw); go_simp; (try simp only [run_eql_slice_nil _ 36 _ _ _ _ Try.underlying36, Result.andThen_ok]); (try with_reducible rfl))); (case ha39 => (simp only [Act.put, hq1, hq2, hq3, Option.isNone, Bool.not_true, Bool.not_false]; (try with_reducible rfl))); (case hl39 => (simp only [Act.put, hq1, hq2, hq3, Option.isNone, Bool.not_true, Bool.not_false]; (try with_reducible rfl))))); (first | (refine held_skip (i := 17) (a' := ?hA40) (l' := ?hL40) rfl (by kernel_rfl) (by kernel_rfl) (by kernel_rfl) (fun _ _ _ h => h) (by rfl) (by assumption) ?ha40 ?hl40 ?hh40; (case ha40 => (simp only [Act.put, hq1, hq2, hq3, Option.isNone, Bool.not_true, Bool.not_false]; (try with_reducible rfl))); (case hl40 => (simp only [Act.put, hq1, hq2, hq3, Option.isNone, Bool.not_true, Bool.not_false]; (try with_reducible rfl)))) | (refine held_take (i := 17) (v := ?hV40) (a' := ?hA40) (l' := ?hL40) rfl (by kernel_rfl) (by kernel_rfl) (by kernel_rfl) (fun _ _ _ h => h) (by rfl) ?hv40 (by assumption) ?ha40 ?hl40 ?hh40; (case hv40 => (intro w hSw; (try dsimp only at hSw); go_simp; (try simp only [run_eql_slice_nil _ 36 _ _ _ _ Try.underlying36, Result.andThen_ok]); (try with_reducible rfl))); (case ha40 => (simp only [Act.put, hq1, hq2, hq3, Option.isNone, Bool.not_true, Bool.not_false]; (try with_reducible rfl))); (case hl40 => (simp only [Act.put, hq1, hq2, hq3, Option.isNone, Bool.not_true, Bool.not_false]; (try with_reducible rfl))))))
      refine held_one (i := 18) rfl (by kernel_rfl) (fun K hK => ?_)
      go_simp
      go_at_call 16
      (with_reducible refine (AH.out _).mono ?_)
      rintro e w7 ⟨rfl, hf7⟩
      have hf67 : Fr wr w7 := Fr.trans (Below.refl _ _).drew hf7
      (refine held_back hK (a' := ?hA148) (l' := ?hL148) ?ha148 ?hl148 (hSC.out _ hf67) (fun hHeld => ?hh148); (case ha148 => first | with_reducible rfl | (simp only [Act.put, hq1, hq2, hq3, Option.isNone, Bool.not_true, Bool.not_false]; (try with_reducible rfl))); (case hl148 => (simp only [Act.put, hq1, hq2, hq3, Option.isNone, Bool.not_true, Bool.not_false]; (try with_reducible rfl))); clear hK K)
      ((first | (refine held_skip (i := 19) (a' := ?hA41) (l' := ?hL41) rfl (by kernel_rfl) (by kernel_rfl) (by kernel_rfl) (fun _ _ _ h => h) (by rfl) (by assumption) ?ha41 ?hl41 ?hh41; (case ha41 => (simp only [Act.put, hq1, hq2, hq3, Option.isNone, Bool.not_true, Bool.not_false]; (try with_reducible rfl))); (case hl41 => (simp only [Act.put, hq1, hq2, hq3, Option.isNone, Bool.not_true, Bool.not_false]; (try with_reducible rfl)))) | (refine held_take (i := 19) (v := ?hV41) (a' := ?hA41) (l' := ?hL41) rfl (by kernel_rfl) (by kernel_rfl) (by kernel_rfl) (fun _ _ _ h => h) (by rfl) ?hv41 (by assumption) ?ha41 ?hl41 ?hh41; (case hv41 => (intro w hSw; (try dsimp only at hSw); go_simp; (try simp only [run_eql_slice_nil _ 36 _ _ _ _ Try.underlying36, Result.andThen_ok]); (try with_reducible rfl))); (case ha41 => (simp only [Act.put, hq1, hq2, hq3, Option.isNone, Bool.not_true, Bool.not_false]; (try with_reducible rfl))); (case hl41 => (simp only [Act.put, hq1, hq2, hq3, Option.isNone, Bool.not_true, Bool.not_false]; (try with_reducible rfl))))))
      refine wpAnyH_done (by kernel_rfl) ?_ _
      have HF7 : Hid (Fr W2 w7) := HF.out.trans hf67
      clear hSC AH hHeld hf7 hf67
      cases ab with
      | true =>
        have HS2 : Hid (pa = k + 1 + ((p.keep.drop (k + 1)).takeWhile fun y => aheadB y.h r.h).length) := by rw [Hid, HS.out, placeAt_step HYY.out HAB.out.symm]; omega
        go_wp2_with fail
        go_roundw
        case rel => exact ⟨k + 1, by omega, by go_num, HS2, HF7⟩
        case measure => simp [intOf]; omega
      | false =>
        have hkp : pa = k := by rw [HS.out, placeAt_stop HYY.out HAB.out.symm]; omega
        subst hkp
        clear HAB HYY HS
        obtain ⟨W3, hW3⟩ : ∃ W3, W3 = w7 := ⟨_, rfl⟩
        have HF23 : Hid (Fr W2 W3) := by rw [hW3]; exact HF7.out
        rw [← hW3]
        clear hW3
        have HF3 : Hid (Fr w W3) := HF2.out.trans HF23.out
        have H3 := Lib.hid (H.out.fr HF3.out)
        have HQ3 := Lib.hid (blk_go HQ2.out HF23.out)
        have hbx := H3.out.blk
        rw [← HN.out] at hbx
        have hqx := HQ3.out
        (obtain ⟨bp0, bp1, bp2, bp3⟩ := box4_ hbx)
        (obtain ⟨bx0, bx1, bx2, bx3, bx4, bx5, bx6, bx7, bx8, bx9, bx10, bx11, bx12⟩ := box13_ hqx)
        have hSC : Hid (∀ w', Fr W3 w' → w'.cell? ⟨pb, 1, none⟩ = some (.slice (some ad) n c) ∧ w'.cell? ⟨q, 2, none⟩ = some (.int .i64 r.n) ∧ w'.cell? ⟨q, 4, none⟩ = some (.int .i64 r.h.frm) ∧ w'.cell? ⟨q, 5, none⟩ = some (.int .i64 r.h.seq) ∧ w'.cell? ⟨q, 6, none⟩ = some (.int .i64 r.h.to) ∧ w'.cell? ⟨q, 7, none⟩ = some (.int .i64 r.h.till) ∧ w'.cell? ⟨q, 8, none⟩ = some (.int .i64 r.h.bytes) ∧ w'.cell? ⟨q, 9, none⟩ = some (.int .i64 r.h.block) ∧ w'.cell? ⟨q, 12, none⟩ = some (.slice B2 nb2 cb2)) := fun w' hf => ⟨(hf.cell (World.block_lt_of_cell? W3 _ bp1)).trans bp1, (hf.cell (World.block_lt_of_cell? W3 _ bx2)).trans bx2, (hf.cell (World.block_lt_of_cell? W3 _ bx4)).trans bx4, (hf.cell (World.block_lt_of_cell? W3 _ bx5)).trans bx5, (hf.cell (World.block_lt_of_cell? W3 _ bx6)).trans bx6, (hf.cell (World.block_lt_of_cell? W3 _ bx7)).trans bx7, (hf.cell (World.block_lt_of_cell? W3 _ bx8)).trans bx8, (hf.cell (World.block_lt_of_cell? W3 _ bx9)).trans bx9, (hf.cell (World.block_lt_of_cell? W3 _ bx12)).trans bx12⟩
        clear hbx hqx bp0 bp1 bp2 bp3 bx0 bx1 bx2 bx3 bx4 bx5 bx6 bx7 bx8 bx9 bx10 bx11 bx12
        go_upto_region 12 with fail
        refine last_begin 18 (n := 19) (bs := #[false, false, false, false, false, false, false, false, false, false, false, false, false, false, false, false, false, false, false]) rfl rfl (by kernel_rfl) (S := fun w' => w'.cell? ⟨pb, 1, none⟩ = some (.slice (some ad) n c) ∧ w'.cell? ⟨q, 2, none⟩ = some (.int .i64 r.n) ∧ w'.cell? ⟨q, 4, none⟩ = some (.int .i64 r.h.frm) ∧ w'.cell? ⟨q, 5, none⟩ = some (.int .i64 r.h.seq) ∧ w'.cell? ⟨q, 6, none⟩ = some (.int .i64 r.h.to) ∧ w'.cell? ⟨q, 7, none⟩ = some (.int .i64 r.h.till) ∧ w'.cell? ⟨q, 8, none⟩ = some (.int .i64 r.h.bytes) ∧ w'.cell? ⟨q, 9, none⟩ = some (.int .i64 r.h.block) ∧ w'.cell? ⟨q, 12, none⟩ = some (.slice B2 nb2 cb2)) (hSC.out _ (Below.refl _ _).drew) (fun hHeld => ?_)
        ((first | (refine last_skip (i := 0) (a' := ?hA88) (l' := ?hL88) rfl (by kernel_rfl) (by kernel_rfl) (by kernel_rfl) (by kernel_rfl) (fun _ _ _ h => h) (by rfl) (by assumption) ?ha88 ?hl88 ?hh88; (case ha88 => (simp only [Act.put, hq1, hq2, hq3, Option.isNone, Bool.not_true, Bool.not_false]; (try with_reducible rfl))); (case hl88 => (simp only [Act.put, hq1, hq2, hq3, Option.isNone, Bool.not_true, Bool.not_false]; (try with_reducible rfl)))) | (refine last_take (i := 0) (v := ?hV88) (a' := ?hA88) (l' := ?hL88) rfl (by kernel_rfl) (by kernel_rfl) (by kernel_rfl) (by kernel_rfl) (fun _ _ _ h => h) (by rfl) ?hv88 (by assumption) ?ha88 ?hl88 ?hh88; (case hv88 => (intro w hSw; (try dsimp only at hSw); go_simp; (try simp only [run_eql_slice_nil _ 36 _ _ _ _ Try.underlying36, Result.andThen_ok]); (try with_reducible rfl))); (case ha88 => (simp only [Act.put, hq1, hq2, hq3, Option.isNone, Bool.not_true, Bool.not_false]; (try with_reducible rfl))); (case hl88 => (simp only [Act.put, hq1, hq2, hq3, Option.isNone, Bool.not_true, Bool.not_false]; (try with_reducible rfl))))); (first | (refine last_skip (i := 1) (a' := ?hA89) (l' := ?hL89) rfl (by kernel_rfl) (by kernel_rfl) (by kernel_rfl) (by kernel_rfl) (fun _ _ _ h => h) (by rfl) (by assumption) ?ha89 ?hl89 ?hh89; (case ha89 => (simp only [Act.put, hq1, hq2, hq3, Option.isNone, Bool.not_true, Bool.not_false]; (try with_reducible rfl))); (case hl89 => (simp only [Act.put, hq1, hq2, hq3, Option.isNone, Bool.not_true, Bool.not_false]; (try with_reducible rfl)))) | (refine last_take (i := 1) (v := ?hV89) (a' := ?hA89) (l' := ?hL89) rfl (by kernel_rfl) (by kernel_rfl) (by kernel_rfl) (by kernel_rfl) (fun _ _ _ h => h) (by rfl) ?hv89 (by assumption) ?ha89 ?hl89 ?hh89; (case hv89 => (intro w hSw; (try dsimp only at hSw); go_simp; (try simp only [run_eql_slice_nil _ 36 _ _ _ _ Try.underlying36, Result.andThen_ok]); (try with_reducible rfl))); (case ha89 => (simp only [Act.put, hq1, hq2, hq3, Option.isNone, Bool.not_true, Bool.not_false]; (try with_reducible rfl))); (case hl89 => (simp only [Act.put, hq1, hq2, hq3, Option.isNone, Bool.not_true, Bool.not_false]; (try with_reducible rfl))))); (first | (refine last_skip (i := 2) (a' := ?hA90) (l' := ?hL90) rfl (by kernel_rfl) (by kernel_rfl) (by kernel_rfl) (by kernel_rfl) (fun _ _ _ h => h) (by rfl) (by assumption) ?ha90 ?hl90 ?hh90; (case ha90 => (simp only [Act.put, hq1, hq2, hq3, Option.isNone, Bool.not_true, Bool.not_false]; (try with_reducible rfl))); (case hl90 => (simp only [Act.put, hq1, hq2, hq3, Option.isNone, Bool.not_true, Bool.not_false]; (try with_reducible rfl)))) | (refine last_take (i := 2) (v := ?hV90) (a' := ?hA90) (l' := ?hL90) rfl (by kernel_rfl) (by kernel_rfl) (by kernel_rfl) (by kernel_rfl) (fun _ _ _ h => h) (by rfl) ?hv90 (by assumption) ?ha90 ?hl90 ?hh90; (case hv90 => (intro w hSw; (try dsimp only at hSw); go_simp; (try simp only [run_eql_slice_nil _ 36 _ _ _ _ Try.underlying36, Result.andThen_ok]); (try with_reducible rfl))); (case ha90 => (simp only [Act.put, hq1, hq2, hq3, Option.isNone, Bool.not_true, Bool.not_false]; (try with_reducible rfl))); (case hl90 => (simp only [Act.put, hq1, hq2, hq3, Option.isNone, Bool.not_true, Bool.not_false]; (try with_reducible rfl))))); (first | (refine last_skip (i := 3) (a' := ?hA91) (l' := ?hL91) rfl (by kernel_rfl) (by kernel_rfl) (by kernel_rfl) (by kernel_rfl) (fun _ _ _ h => h) (by rfl) (by assumption) ?ha91 ?hl91 ?hh91; (case ha91 => (simp only [Act.put, hq1, hq2, hq3, Option.isNone, Bool.not_true, Bool.not_false]; (try with_reducible rfl))); (case hl91 => (simp only [Act.put, hq1, hq2, hq3, Option.isNone, Bool.not_true, Bool.not_false]; (try with_reducible rfl)))) | (refine last_take (i := 3) (v := ?hV91) (a' := ?hA91) (l' := ?hL91) rfl (by kernel_rfl) (by kernel_rfl) (by kernel_rfl) (by kernel_rfl) (fun _ _ _ h => h) (by rfl) ?hv91 (by assumption) ?ha91 ?hl91 ?hh91; (case hv91 => (intro w hSw; (try dsimp only at hSw); go_simp; (try simp only [run_eql_slice_nil _ 36 _ _ _ _ Try.underlying36, Result.andThen_ok]); (try with_reducible rfl))); (case ha91 => (simp only [Act.put, hq1, hq2, hq3, Option.isNone, Bool.not_true, Bool.not_false]; (try with_reducible rfl))); (case hl91 => (simp only [Act.put, hq1, hq2, hq3, Option.isNone, Bool.not_true, Bool.not_false]; (try with_reducible rfl))))); (first | (refine last_skip (i := 4) (a' := ?hA92) (l' := ?hL92) rfl (by kernel_rfl) (by kernel_rfl) (by kernel_rfl) (by kernel_rfl) (fun _ _ _ h => h) (by rfl) (by assumption) ?ha92 ?hl92 ?hh92; (case ha92 => (simp only [Act.put, hq1, hq2, hq3, Option.isNone, Bool.not_true, Bool.not_false]; (try with_reducible rfl))); (case hl92 => (simp only [Act.put, hq1, hq2, hq3, Option.isNone, Bool.not_true, Bool.not_false]; (try with_reducible rfl)))) | (refine last_take (i := 4) (v := ?hV92) (a' := ?hA92) (l' := ?hL92) rfl (by kernel_rfl) (by kernel_rfl) (by kernel_rfl) (by kernel_rfl) (fun _ _ _ h => h) (by rfl) ?hv92 (by assumption) ?ha92 ?hl92 ?hh92; (case hv92 => (intro w hSw; (try dsimp only at hSw); go_simp; (try simp only [run_eql_slice_nil _ 36 _ _ _ _ Try.underlying36, Result.andThen_ok]); (try with_reducible rfl))); (case ha92 => (simp only [Act.put, hq1, hq2, hq3, Option.isNone, Bool.not_true, Bool.not_false]; (try with_reducible rfl))); (case hl92 => (simp only [Act.put, hq1, hq2, hq3, Option.isNone, Bool.not_true, Bool.not_false]; (try with_reducible rfl))))); (first | (refine last_skip (i := 5) (a' := ?hA93) (l' := ?hL93) rfl (by kernel_rfl) (by kernel_rfl) (by kernel_rfl) (by kernel_rfl) (fun _ _ _ h => h) (by rfl) (by assumption) ?ha93 ?hl93 ?hh93; (case ha93 => (simp only [Act.put, hq1, hq2, hq3, Option.isNone, Bool.not_true, Bool.not_false]; (try with_reducible rfl))); (case hl93 => (simp only [Act.put, hq1, hq2, hq3, Option.isNone, Bool.not_true, Bool.not_false]; (try with_reducible rfl)))) | (refine last_take (i := 5) (v := ?hV93) (a' := ?hA93) (l' := ?hL93) rfl (by kernel_rfl) (by kernel_rfl) (by kernel_rfl) (by kernel_rfl) (fun _ _ _ h => h) (by rfl) ?hv93 (by assumption) ?ha93 ?hl93 ?hh93; (case hv93 => (intro w hSw; (try dsimp only at hSw); go_simp; (try simp only [run_eql_slice_nil _ 36 _ _ _ _ Try.underlying36, Result.andThen_ok]); (try with_reducible rfl))); (case ha93 => (simp only [Act.put, hq1, hq2, hq3, Option.isNone, Bool.not_true, Bool.not_false]; (try with_reducible rfl))); (case hl93 => (simp only [Act.put, hq1, hq2, hq3, Option.isNone, Bool.not_true, Bool.not_false]; (try with_reducible rfl))))); (first | (refine last_skip (i := 6) (a' := ?hA94) (l' := ?hL94) rfl (by kernel_rfl) (by kernel_rfl) (by kernel_rfl) (by kernel_rfl) (fun _ _ _ h => h) (by rfl) (by assumption) ?ha94 ?hl94 ?hh94; (case ha94 => (simp only [Act.put, hq1, hq2, hq3, Option.isNone, Bool.not_true, Bool.not_false]; (try with_reducible rfl))); (case hl94 => (simp only [Act.put, hq1, hq2, hq3, Option.isNone, Bool.not_true, Bool.not_false]; (try with_reducible rfl)))) | (refine last_take (i := 6) (v := ?hV94) (a' := ?hA94) (l' := ?hL94) rfl (by kernel_rfl) (by kernel_rfl) (by kernel_rfl) (by kernel_rfl) (fun _ _ _ h => h) (by rfl) ?hv94 (by assumption) ?ha94 ?hl94 ?hh94; (case hv94 => (intro w hSw; (try dsimp only at hSw); go_simp; (try simp only [run_eql_slice_nil _ 36 _ _ _ _ Try.underlying36, Result.andThen_ok]); (try with_reducible rfl))); (case ha94 => (simp only [Act.put, hq1, hq2, hq3, Option.isNone, Bool.not_true, Bool.not_false]; (try with_reducible rfl))); (case hl94 => (simp only [Act.put, hq1, hq2, hq3, Option.isNone, Bool.not_true, Bool.not_false]; (try with_reducible rfl))))); (first | (refine last_skip (i := 7) (a' := ?hA95) (l' := ?hL95) rfl (by kernel_rfl) (by kernel_rfl) (by kernel_rfl) (by kernel_rfl) (fun _ _ _ h => h) (by rfl) (by assumption) ?ha95 ?hl95 ?hh95; (case ha95 => (simp only [Act.put, hq1, hq2, hq3, Option.isNone, Bool.not_true, Bool.not_false]; (try with_reducible rfl))); (case hl95 => (simp only [Act.put, hq1, hq2, hq3, Option.isNone, Bool.not_true, Bool.not_false]; (try with_reducible rfl)))) | (refine last_take (i := 7) (v := ?hV95) (a' := ?hA95) (l' := ?hL95) rfl (by kernel_rfl) (by kernel_rfl) (by kernel_rfl) (by kernel_rfl) (fun _ _ _ h => h) (by rfl) ?hv95 (by assumption) ?ha95 ?hl95 ?hh95; (case hv95 => (intro w hSw; (try dsimp only at hSw); go_simp; (try simp only [run_eql_slice_nil _ 36 _ _ _ _ Try.underlying36, Result.andThen_ok]); (try with_reducible rfl))); (case ha95 => (simp only [Act.put, hq1, hq2, hq3, Option.isNone, Bool.not_true, Bool.not_false]; (try with_reducible rfl))); (case hl95 => (simp only [Act.put, hq1, hq2, hq3, Option.isNone, Bool.not_true, Bool.not_false]; (try with_reducible rfl))))); (first | (refine last_skip (i := 8) (a' := ?hA96) (l' := ?hL96) rfl (by kernel_rfl) (by kernel_rfl) (by kernel_rfl) (by kernel_rfl) (fun _ _ _ h => h) (by rfl) (by assumption) ?ha96 ?hl96 ?hh96; (case ha96 => (simp only [Act.put, hq1, hq2, hq3, Option.isNone, Bool.not_true, Bool.not_false]; (try with_reducible rfl))); (case hl96 => (simp only [Act.put, hq1, hq2, hq3, Option.isNone, Bool.not_true, Bool.not_false]; (try with_reducible rfl)))) | (refine last_take (i := 8) (v := ?hV96) (a' := ?hA96) (l' := ?hL96) rfl (by kernel_rfl) (by kernel_rfl) (by kernel_rfl) (by kernel_rfl) (fun _ _ _ h => h) (by rfl) ?hv96 (by assumption) ?ha96 ?hl96 ?hh96; (case hv96 => (intro w hSw; (try dsimp only at hSw); go_simp; (try simp only [run_eql_slice_nil _ 36 _ _ _ _ Try.underlying36, Result.andThen_ok]); (try with_reducible rfl))); (case ha96 => (simp only [Act.put, hq1, hq2, hq3, Option.isNone, Bool.not_true, Bool.not_false]; (try with_reducible rfl))); (case hl96 => (simp only [Act.put, hq1, hq2, hq3, Option.isNone, Bool.not_true, Bool.not_false]; (try with_reducible rfl))))); (first | (refine last_skip (i := 9) (a' := ?hA97) (l' := ?hL97) rfl (by kernel_rfl) (by kernel_rfl) (by kernel_rfl) (by kernel_rfl) (fun _ _ _ h => h) (by rfl) (by assumption) ?ha97 ?hl97 ?hh97; (case ha97 => (simp only [Act.put, hq1, hq2, hq3, Option.isNone, Bool.not_true, Bool.not_false]; (try with_reducible rfl))); (case hl97 => (simp only [Act.put, hq1, hq2, hq3, Option.isNone, Bool.not_true, Bool.not_false]; (try with_reducible rfl)))) | (refine last_take (i := 9) (v := ?hV97) (a' := ?hA97) (l' := ?hL97) rfl (by kernel_rfl) (by kernel_rfl) (by kernel_rfl) (by kernel_rfl) (fun _ _ _ h => h) (by rfl) ?hv97 (by assumption) ?ha97 ?hl97 ?hh97; (case hv97 => (intro w hSw; (try dsimp only at hSw); go_simp; (try simp only [run_eql_slice_nil _ 36 _ _ _ _ Try.underlying36, Result.andThen_ok]); (try with_reducible rfl))); (case ha97 => (simp only [Act.put, hq1, hq2, hq3, Option.isNone, Bool.not_true, Bool.not_false]; (try with_reducible rfl))); (case hl97 => (simp only [Act.put, hq1, hq2, hq3, Option.isNone, Bool.not_true, Bool.not_false]; (try with_reducible rfl))))); (first | (refine last_skip (i := 11) (a' := ?hA98) (l' := ?hL98) rfl (by kernel_rfl) (by kernel_rfl) (by kernel_rfl) (by kernel_rfl) (fun _ _ _ h => h) (by rfl) (by assumption) ?ha98 ?hl98 ?hh98; (case ha98 => (simp only [Act.put, hq1, hq2, hq3, Option.isNone, Bool.not_true, Bool.not_false]; (try with_reducible rfl))); (case hl98 => (simp only [Act.put, hq1, hq2, hq3, Option.isNone, Bool.not_true, Bool.not_false]; (try with_reducible rfl)))) | (refine last_take (i := 11) (v := ?hV98) (a' := ?hA98) (l' := ?hL98) rfl (by kernel_rfl) (by kernel_rfl) (by kernel_rfl) (by kernel_rfl) (fun _ _ _ h => h) (by rfl) ?hv98 (by assumption) ?ha98 ?hl98 ?hh98; (case hv98 => (intro w hSw; (try dsimp only at hSw); go_simp; (try simp only [run_eql_slice_nil _ 36 _ _ _ _ Try.underlying36, Result.andThen_ok]); (try with_reducible rfl))); (case ha98 => (simp only [Act.put, hq1, hq2, hq3, Option.isNone, Bool.not_true, Bool.not_false]; (try with_reducible rfl))); (case hl98 => (simp only [Act.put, hq1, hq2, hq3, Option.isNone, Bool.not_true, Bool.not_false]; (try with_reducible rfl))))); (first | (refine last_skip (i := 12) (a' := ?hA99) (l' := ?hL99) rfl (by kernel_rfl) (by kernel_rfl) (by kernel_rfl) (by kernel_rfl) (fun _ _ _ h => h) (by rfl) (by assumption) ?ha99 ?hl99 ?hh99; (case ha99 => (simp only [Act.put, hq1, hq2, hq3, Option.isNone, Bool.not_true, Bool.not_false]; (try with_reducible rfl))); (case hl99 => (simp only [Act.put, hq1, hq2, hq3, Option.isNone, Bool.not_true, Bool.not_false]; (try with_reducible rfl)))) | (refine last_take (i := 12) (v := ?hV99) (a' := ?hA99) (l' := ?hL99) rfl (by kernel_rfl) (by kernel_rfl) (by kernel_rfl) (by kernel_rfl) (fun _ _ _ h => h) (by rfl) ?hv99 (by assumption) ?ha99 ?hl99 ?hh99; (case hv99 => (intro w hSw; (try dsimp only at hSw); go_simp; (try simp only [run_eql_slice_nil _ 36 _ _ _ _ Try.underlying36, Result.andThen_ok]); (try with_reducible rfl))); (case ha99 => (simp only [Act.put, hq1, hq2, hq3, Option.isNone, Bool.not_true, Bool.not_false]; (try with_reducible rfl))); (case hl99 => (simp only [Act.put, hq1, hq2, hq3, Option.isNone, Bool.not_true, Bool.not_false]; (try with_reducible rfl))))))
        refine last_one (i := 10) rfl (by kernel_rfl) (fun K hK => ?_)
        go_simp
        go_at_call 25
        (with_reducible refine (cloneBytes_any _ _ _ _ r.cargo (HYS.out.go sByte (HF3.out.trans (Below.refl _ _).drew)) HYL.out).mono ?_)
        rintro e w5 ⟨v5, rfl, ho5, hf5⟩
        obtain ⟨A5, c5, rfl, hd5, hs5⟩ := own_bytes ho5
        have HF35 : Hid (Fr W3 w5) := Fr.trans (Below.refl _ _).drew hf5
        have HS5 : Hid (Sl 1 eByte w5 (NW W3.heap.size w5.heap.size) A5 r.cargo.length r.cargo) := hs5
        have HD5 := Lib.hid hd5
        clear ho5 hf5 hs5 hd5
        (refine last_back hK (a' := ?hA134) (l' := ?hL134) ?ha134 ?hl134 (hSC.out _ HF35.out) (fun hHeld => ?hh134); (case ha134 => first | with_reducible rfl | (simp only [Act.put, hq1, hq2, hq3, Option.isNone, Bool.not_true, Bool.not_false]; (try with_reducible rfl))); (case hl134 => (simp only [Act.put, hq1, hq2, hq3, Option.isNone, Bool.not_true, Bool.not_false]; (try with_reducible rfl))); clear hK K)
        ((first | (refine last_skip (i := 13) (a' := ?hA100) (l' := ?hL100) rfl (by kernel_rfl) (by kernel_rfl) (by kernel_rfl) (by kernel_rfl) (fun _ _ _ h => h) (by rfl) (by assumption) ?ha100 ?hl100 ?hh100; (case ha100 => (simp only [Act.put, hq1, hq2, hq3, Option.isNone, Bool.not_true, Bool.not_false]; (try with_reducible rfl))); (case hl100 => (simp only [Act.put, hq1, hq2, hq3, Option.isNone, Bool.not_true, Bool.not_false]; (try with_reducible rfl)))) | (refine last_take (i := 13) (v := ?hV100) (a' := ?hA100) (l' := ?hL100) rfl (by kernel_rfl) (by kernel_rfl) (by kernel_rfl) (by kernel_rfl) (fun _ _ _ h => h) (by rfl) ?hv100 (by assumption) ?ha100 ?hl100 ?hh100; (case hv100 => (intro w hSw; (try dsimp only at hSw); go_simp; (try simp only [run_eql_slice_nil _ 36 _ _ _ _ Try.underlying36, Result.andThen_ok]); (try with_reducible rfl))); (case ha100 => (simp only [Act.put, hq1, hq2, hq3, Option.isNone, Bool.not_true, Bool.not_false]; (try with_reducible rfl))); (case hl100 => (simp only [Act.put, hq1, hq2, hq3, Option.isNone, Bool.not_true, Bool.not_false]; (try with_reducible rfl))))))
        refine last_one (i := 14) rfl (by kernel_rfl) (fun K hK => ?_)
        go_simp
        obtain ⟨W6, hW6⟩ : ∃ W6, W6 = w5.alloc (.cells #[.int .i64 r.h.frm, .int .i64 r.h.seq, .int .i64 r.h.to, .int .i64 r.h.till, .int .i64 r.h.bytes, .int .i64 r.h.block, .bool true, .slice A5 r.cargo.length c5, .slice none 0 0, .int .i64 r.n, .int .i64 0, .int .i64 0, .int .i64 0, .slice none 0 0, .bool false, .bool false] 46) := ⟨_, rfl⟩
        obtain ⟨vb, hvb⟩ : ∃ vb, vb = w5.heap.size := ⟨_, rfl⟩
        have HF56 : Hid (Fr w5 W6) := by rw [hW6]; exact frAlloc _ _
        have HV6 : Hid (W6.heap[vb]? = some (.cells (kpCells (Kp.sent r) A5 r.cargo.length c5 (.slice none 0 0) (.slice none 0 0)).toArray 46 (0, 0))) := by rw [hW6]; exact heap_new hvb
        have HF36 : Hid (Fr W3 W6) := HF35.out.trans HF56.out
        have H6 : Hid (PlM W6 base pb p (some ad) c) := H3.out.fr HF36.out
        have HO6 : Hid (Own 16 (eHi base eKq) W6 base 46 (.slice (some ad) n c) (p.keep.map fun x => (false, x))) := by
          have := H6.out.own.toQ
          rw [← HN.out] at this
          exact this
        have HX6 : Hid (eHi base eKq W6 (fun b => b < W6.heap.size ∧ (Value.slice (some ad) n c).ownBlock ≠ some b) (fun j => (kpCells (Kp.sent r) A5 r.cargo.length c5 (.slice none 0 0) (.slice none 0 0))[j]?) (false, Kp.sent r)) := by
          have w0 : wfI 0 := wfI.mk (by decide)
          refine ⟨eKp_iff.2 ⟨A5, r.cargo.length, c5, none, 0, 0, none, 0, 0, ⟨rfl, rfl, rfl, rfl, rfl, rfl, rfl, rfl, rfl, rfl, rfl, rfl, rfl, rfl, rfl, rfl⟩, ⟨hwh, hwn, w0, w0, w0⟩, ⟨⟨by rw [HYN.out]; exact HYL.out, HD5.out⟩, ?_⟩, ⟨⟨by unfold lim; omega, by omega, by unfold maxLen; omega⟩, Sl.nil⟩, ⟨by unfold lim; omega, by omega, by unfold maxLen; omega⟩, Sl.nil⟩, fun e => by cases e⟩
          refine (HS5.out.keep sByte fun b hb => HF56.out.cell hb.2).more sByte fun b hb => ⟨⟨Nat.lt_of_lt_of_le hb.2 HF56.out.size, fun e => ?_⟩, ?_⟩
          · have h1 := H3.out.own
            rw [← HN.out] at h1
            have := (h1.ge e).2
            have := hb.1
            omega
          · have := hb.1
            have := HF3.out.size
            omega
        rw [← hW6, ← hvb]
        have HVB := Lib.hid hvb
        clear hW6 hvb
        (refine last_back hK (a' := ?hA135) (l' := ?hL135) ?ha135 ?hl135 (hSC.out _ HF36.out) (fun hHeld => ?hh135); (case ha135 => first | with_reducible rfl | (simp only [Act.put, hq1, hq2, hq3, Option.isNone, Bool.not_true, Bool.not_false]; (try with_reducible rfl))); (case hl135 => (simp only [Act.put, hq1, hq2, hq3, Option.isNone, Bool.not_true, Bool.not_false]; (try with_reducible rfl))); clear hK K)
        refine last_one (i := 15) rfl (by kernel_rfl) (fun K hK => ?_)
        go_simp
        go_at_call 41
        with_reducible refine (insertKepts_own (N := base) W6 base pa vb (.slice (some ad) n c) (p.keep.map fun x => (false, x)) (false, Kp.sent r) (kpCells (Kp.sent r) A5 r.cargo.length c5 (.slice none 0 0) (.slice none 0 0)) 46 HO6.out (by rw [List.length_map, ← HN.out]; omega) HV6.out (fun e => by have := (HO6.out.ge e).2; have h1 := H3.out.own; rw [← HN.out] at h1; have := (h1.ge e).2; have := HF35.out.size; have := HVB.out; omega) rfl (by simp [kpCells, Value.oneCell']) HX6.out (by rw [List.length_map, ← HN.out]; unfold lim; omega) (by have := HF3.out.size; have := HF36.out.size; omega)).mono ?_
        rintro e w7 ⟨v7, rfl, ho7, hg7⟩
        obtain ⟨A7, n7, c7, rfl⟩ := own_isSl ho7
        have hno : ∀ b, (Value.slice (some ad) n c).ownBlock = some b → base ≤ b ∧ b < w.heap.size := fun b hb => by
          have h1 := H.out.own
          rw [← HN.out] at h1
          exact h1.ge hb
        have hk7 : Chg (fun b => (Value.slice (some ad) n c).ownBlock = some b) W6 w7 := ⟨hg7.os, hg7.tape, hg7.output, hg7.size, fun b hb hs => hg7.block b hb fun e => hs e.symm⟩
        have hno1 : ¬ (Value.slice (some ad) n c).ownBlock = some pb := fun e => by have := hno _ e; omega
        have hno2 : ¬ (Value.slice (some ad) n c).ownBlock = some q := fun e => by have := hno _ e; have := HQW.out; omega
        have hS7 : w7.cell? ⟨pb, 1, none⟩ = some (.slice (some ad) n c) ∧ w7.cell? ⟨q, 2, none⟩ = some (.int .i64 r.n) ∧ w7.cell? ⟨q, 4, none⟩ = some (.int .i64 r.h.frm) ∧ w7.cell? ⟨q, 5, none⟩ = some (.int .i64 r.h.seq) ∧ w7.cell? ⟨q, 6, none⟩ = some (.int .i64 r.h.to) ∧ w7.cell? ⟨q, 7, none⟩ = some (.int .i64 r.h.till) ∧ w7.cell? ⟨q, 8, none⟩ = some (.int .i64 r.h.bytes) ∧ w7.cell? ⟨q, 9, none⟩ = some (.int .i64 r.h.block) ∧ w7.cell? ⟨q, 12, none⟩ = some (.slice B2 nb2 cb2) := by
          obtain ⟨k1, k2, k3, k4, k5, k6, k7, k8, k9⟩ := hSC.out _ HF36.out
          exact ⟨(hk7.cell (World.block_lt_of_cell? W6 _ k1) hno1).trans k1, (hk7.cell (World.block_lt_of_cell? W6 _ k2) hno2).trans k2, (hk7.cell (World.block_lt_of_cell? W6 _ k3) hno2).trans k3, (hk7.cell (World.block_lt_of_cell? W6 _ k4) hno2).trans k4, (hk7.cell (World.block_lt_of_cell? W6 _ k5) hno2).trans k5, (hk7.cell (World.block_lt_of_cell? W6 _ k6) hno2).trans k6, (hk7.cell (World.block_lt_of_cell? W6 _ k7) hno2).trans k7, (hk7.cell (World.block_lt_of_cell? W6 _ k8) hno2).trans k8, (hk7.cell (World.block_lt_of_cell? W6 _ k9) hno2).trans k9⟩
        have hb7 := hk7.blk H6.out.blk hno1
        rw [← HN.out] at hb7
        have HO7 := Lib.hid ho7
        have HK7 := Lib.hid hk7
        (refine last_back hK (a' := ?hA136) (l' := ?hL136) ?ha136 ?hl136 (hS7) (fun hHeld => ?hh136); (case ha136 => first | with_reducible rfl | (simp only [Act.put, hq1, hq2, hq3, Option.isNone, Bool.not_true, Bool.not_false]; (try with_reducible rfl))); (case hl136 => (simp only [Act.put, hq1, hq2, hq3, Option.isNone, Bool.not_true, Bool.not_false]; (try with_reducible rfl))); clear hK K)
        refine last_one (i := 16) rfl (by kernel_rfl) (fun K hK => ?_)
        go_simp
        (refine last_back hK (a' := ?hA137) (l' := ?hL137) ?ha137 ?hl137 (hS7) (fun hHeld => ?hh137); (case ha137 => first | with_reducible rfl | (simp only [Act.put, hq1, hq2, hq3, Option.isNone, Bool.not_true, Bool.not_false]; (try with_reducible rfl))); (case hl137 => (simp only [Act.put, hq1, hq2, hq3, Option.isNone, Bool.not_true, Bool.not_false]; (try with_reducible rfl))); clear hK K)
        ((first | (refine last_skip (i := 17) (a' := ?hA101) (l' := ?hL101) rfl (by kernel_rfl) (by kernel_rfl) (by kernel_rfl) (by kernel_rfl) (fun _ _ _ h => h) (by rfl) (by assumption) ?ha101 ?hl101 ?hh101; (case ha101 => (simp only [Act.put, hq1, hq2, hq3, Option.isNone, Bool.not_true, Bool.not_false]; (try with_reducible rfl))); (case hl101 => (simp only [Act.put, hq1, hq2, hq3, Option.isNone, Bool.not_true, Bool.not_false]; (try with_reducible rfl)))) | (refine last_take (i := 17) (v := ?hV101) (a' := ?hA101) (l' := ?hL101) rfl (by kernel_rfl) (by kernel_rfl) (by kernel_rfl) (by kernel_rfl) (fun _ _ _ h => h) (by rfl) ?hv101 (by assumption) ?ha101 ?hl101 ?hh101; (case hv101 => (intro w hSw; (try dsimp only at hSw); go_simp; (try simp only [run_eql_slice_nil _ 36 _ _ _ _ Try.underlying36, Result.andThen_ok]); (try with_reducible rfl))); (case ha101 => (simp only [Act.put, hq1, hq2, hq3, Option.isNone, Bool.not_true, Bool.not_false]; (try with_reducible rfl))); (case hl101 => (simp only [Act.put, hq1, hq2, hq3, Option.isNone, Bool.not_true, Bool.not_false]; (try with_reducible rfl))))))
        have y1 := blk_free (i := 1) hb7
        have hpl7 := (Array.getElem?_eq_some_iff.1 hb7).1
        have mp1 := hS7.1
        refine last_one (i := 18) rfl (by kernel_rfl) (fun K hK => ?_)
        go_simp
        refine last_end hK (by kernel_rfl) ?_
        clear hK K
        obtain rfl : n7 = (insKp p.keep (Kp.sent r)).length := by
          rw [HO7.out.len _ _ _ rfl]
          unfold insKp
          rw [show placeAt p.keep (Kp.sent r).h = pa from Hpa.out.symm]
          simp
        obtain ⟨W8, hW8⟩ : ∃ W8, W8 = w7.setCell ⟨pb, 1, none⟩ (.slice A7 (insKp p.keep (Kp.sent r)).length c7) := ⟨_, rfl⟩
        have hb8 : W8.heap[pb]? = some (.cells #[.int .i64 p.me, .slice A7 (insKp p.keep (Kp.sent r)).length c7, .int .i64 p.time, .int .i64 p.seq] 25 (0, 0)) := by rw [hW8]; have := heap_setCell_same w7 pb 1 _ _ (.slice A7 (insKp p.keep (Kp.sent r)).length c7) hb7; simpa using this
        have hk8 : Chg (fun b => b = pb) w7 W8 := by rw [hW8]; exact Chg.set (S := fun b => b = pb) (p := ⟨pb, 1, none⟩) (Chg.refl _ _) rfl _
        rw [← hW8]
        (obtain ⟨bp0, bp1, bp2, bp3⟩ := box4_ hb8)
        have y3 := blk_free (i := 3) hb8
        have hpl8 := (Array.getElem?_eq_some_iff.1 hb8).1
        have hws : IntKind.i64.wrap (p.seq + 1) = p.seq + 1 := by rw [IntKind.wrap_i64]; omega
        have hk9 : Chg (fun b => b = pb) w7 (W8.setCell ⟨pb, 3, none⟩ (.int .i64 (p.seq + 1))) := Chg.set (S := fun b => b = pb) (p := ⟨pb, 3, none⟩) hk8 rfl _
        have HP9 : Hid (PlM (W8.setCell ⟨pb, 3, none⟩ (.int .i64 (p.seq + 1))) base pb { p with keep := insKp p.keep (Kp.sent r), seq := p.seq + 1 } A7 c7) := by
          refine ⟨?_, hpb, ?_⟩
          · have := heap_setCell_same W8 pb 3 _ _ (.int .i64 (p.seq + 1)) hb8
            simpa using this
          · have h1 := HO7.out.ofQ
            have e1 : (List.take pa (p.keep.map fun x => (false, x)) ++ (false, Kp.sent r) :: List.drop pa (p.keep.map fun x => (false, x))).map (·.2) = insKp p.keep (Kp.sent r) := by
              unfold insKp
              rw [show placeAt p.keep (Kp.sent r).h = pa from Hpa.out.symm]
              simp [List.map_take, List.map_drop, List.map_map, Function.comp_def]
            rw [e1] at h1
            exact h1.hiChg sKp hk9 fun b hb => by rw [hb]; exact hpb
        have HC9 : Hid (Chg (PlS base pb) w (W8.setCell ⟨pb, 3, none⟩ (.int .i64 (p.seq + 1)))) := by
          have q1 : Chg (PlS base pb) w W6 := (HF3.out.trans HF36.out).chg
          have q2 : Chg (PlS base pb) W6 w7 := HK7.out.more fun b hb => .inr (hno b hb).1
          exact (q1.trans q2).trans (hk9.more fun b hb => .inl hb)
        clear hb7 hb8 hk8 hk9 hk7 hW8 hS7 y1 hpl7 mp1 hno hno1 hno2 hSC
        go_wp2_with fail
        go_ret
        rw [E4.out]
        exact ⟨rfl, HC9.out, _, _, HP9.out⟩
    · have hkn : k = n := by omega
      have hkp : pa = k := by rw [HS.out, List.drop_eq_nil_of_le (by rw [← HN.out]; omega)]; simp
      subst hkp
      have tk : decide ((pa : Int) < (n : Int)) = false := by simp; omega
      clear hkn
      clear HS bx4 bx5 bx6 bx7 bx8 bx9
      go_upto_region 10 with fail
      go_quiet (fail)
      obtain ⟨W3, hW3⟩ : ∃ W3, W3 = (wr.drewN nq) := ⟨_, rfl⟩
      have HF23 : Hid (Fr W2 W3) := by rw [hW3]; exact (by (repeat' (first | exact Below.refl _ _ | refine below_drewN ?_ _ | refine Below.drew ?_ | refine frA ?_ _ | refine Fr.trans ?_ HF.out)))
      rw [← hW3]
      clear hW3
      have HF3 : Hid (Fr w W3) := HF2.out.trans HF23.out
      have H3 := Lib.hid (H.out.fr HF3.out)
      have HQ3 := Lib.hid (blk_go HQ2.out HF23.out)
      have hbx := H3.out.blk
      rw [← HN.out] at hbx
      have hqx := HQ3.out
      (obtain ⟨bp0, bp1, bp2, bp3⟩ := box4_ hbx)
      (obtain ⟨bx0, bx1, bx2, bx3, bx4, bx5, bx6, bx7, bx8, bx9, bx10, bx11, bx12⟩ := box13_ hqx)
      have hSC : Hid (∀ w', Fr W3 w' → w'.cell? ⟨pb, 1, none⟩ = some (.slice A n c) ∧ w'.cell? ⟨q, 2, none⟩ = some (.int .i64 r.n) ∧ w'.cell? ⟨q, 4, none⟩ = some (.int .i64 r.h.frm) ∧ w'.cell? ⟨q, 5, none⟩ = some (.int .i64 r.h.seq) ∧ w'.cell? ⟨q, 6, none⟩ = some (.int .i64 r.h.to) ∧ w'.cell? ⟨q, 7, none⟩ = some (.int .i64 r.h.till) ∧ w'.cell? ⟨q, 8, none⟩ = some (.int .i64 r.h.bytes) ∧ w'.cell? ⟨q, 9, none⟩ = some (.int .i64 r.h.block) ∧ w'.cell? ⟨q, 12, none⟩ = some (.slice B2 nb2 cb2)) := fun w' hf => ⟨(hf.cell (World.block_lt_of_cell? W3 _ bp1)).trans bp1, (hf.cell (World.block_lt_of_cell? W3 _ bx2)).trans bx2, (hf.cell (World.block_lt_of_cell? W3 _ bx4)).trans bx4, (hf.cell (World.block_lt_of_cell? W3 _ bx5)).trans bx5, (hf.cell (World.block_lt_of_cell? W3 _ bx6)).trans bx6, (hf.cell (World.block_lt_of_cell? W3 _ bx7)).trans bx7, (hf.cell (World.block_lt_of_cell? W3 _ bx8)).trans bx8, (hf.cell (World.block_lt_of_cell? W3 _ bx9)).trans bx9, (hf.cell (World.block_lt_of_cell? W3 _ bx12)).trans bx12⟩
      clear hbx hqx bp0 bp1 bp2 bp3 bx0 bx1 bx2 bx3 bx4 bx5 bx6 bx7 bx8 bx9 bx10 bx11 bx12
      go_upto_region 12 with fail
      refine last_begin 18 (n := 19) (bs := #[false, false, false, false, false, false, false, false, false, false, false, false, false, false, false, false, false, false, false]) rfl rfl (by kernel_rfl) (S := fun w' => w'.cell? ⟨pb, 1, none⟩ = some (.slice A n c) ∧ w'.cell? ⟨q, 2, none⟩ = some (.int .i64 r.n) ∧ w'.cell? ⟨q, 4, none⟩ = some (.int .i64 r.h.frm) ∧ w'.cell? ⟨q, 5, none⟩ = some (.int .i64 r.h.seq) ∧ w'.cell? ⟨q, 6, none⟩ = some (.int .i64 r.h.to) ∧ w'.cell? ⟨q, 7, none⟩ = some (.int .i64 r.h.till) ∧ w'.cell? ⟨q, 8, none⟩ = some (.int .i64 r.h.bytes) ∧ w'.cell? ⟨q, 9, none⟩ = some (.int .i64 r.h.block) ∧ w'.cell? ⟨q, 12, none⟩ = some (.slice B2 nb2 cb2)) (hSC.out _ (Below.refl _ _).drew) (fun hHeld => ?_)
      ((first | (refine last_skip (i := 0) (a' := ?hA102) (l' := ?hL102) rfl (by kernel_rfl) (by kernel_rfl) (by kernel_rfl) (by kernel_rfl) (fun _ _ _ h => h) (by rfl) (by assumption) ?ha102 ?hl102 ?hh102; (case ha102 => (simp only [Act.put, hq1, hq2, hq3, Option.isNone, Bool.not_true, Bool.not_false]; (try with_reducible rfl))); (case hl102 => (simp only [Act.put, hq1, hq2, hq3, Option.isNone, Bool.not_true, Bool.not_false]; (try with_reducible rfl)))) | (refine last_take (i := 0) (v := ?hV102) (a' := ?hA102) (l' := ?hL102) rfl (by kernel_rfl) (by kernel_rfl) (by kernel_rfl) (by kernel_rfl) (fun _ _ _ h => h) (by rfl) ?hv102 (by assumption) ?ha102 ?hl102 ?hh102; (case hv102 => (intro w hSw; (try dsimp only at hSw); go_simp; (try simp only [run_eql_slice_nil _ 36 _ _ _ _ Try.underlying36, Result.andThen_ok]); (try with_reducible rfl))); (case ha102 => (simp only [Act.put, hq1, hq2, hq3, Option.isNone, Bool.not_true, Bool.not_false]; (try with_reducible rfl))); (case hl102 => (simp only [Act.put, hq1, hq2, hq3, Option.isNone, Bool.not_true, Bool.not_false]; (try with_reducible rfl))))); (first | (refine last_skip (i := 1) (a' := ?hA103) (l' := ?hL103) rfl (by kernel_rfl) (by kernel_rfl) (by kernel_rfl) (by kernel_rfl) (fun _ _ _ h => h) (by rfl) (by assumption) ?ha103 ?hl103 ?hh103; (case ha103 => (simp only [Act.put, hq1, hq2, hq3, Option.isNone, Bool.not_true, Bool.not_false]; (try with_reducible rfl))); (case hl103 => (simp only [Act.put, hq1, hq2, hq3, Option.isNone, Bool.not_true, Bool.not_false]; (try with_reducible rfl)))) | (refine last_take (i := 1) (v := ?hV103) (a' := ?hA103) (l' := ?hL103) rfl (by kernel_rfl) (by kernel_rfl) (by kernel_rfl) (by kernel_rfl) (fun _ _ _ h => h) (by rfl) ?hv103 (by assumption) ?ha103 ?hl103 ?hh103; (case hv103 => (intro w hSw; (try dsimp only at hSw); go_simp; (try simp only [run_eql_slice_nil _ 36 _ _ _ _ Try.underlying36, Result.andThen_ok]); (try with_reducible rfl))); (case ha103 => (simp only [Act.put, hq1, hq2, hq3, Option.isNone, Bool.not_true, Bool.not_false]; (try with_reducible rfl))); (case hl103 => (simp only [Act.put, hq1, hq2, hq3, Option.isNone, Bool.not_true, Bool.not_false]; (try with_reducible rfl))))); (first | (refine last_skip (i := 2) (a' := ?hA104) (l' := ?hL104) rfl (by kernel_rfl) (by kernel_rfl) (by kernel_rfl) (by kernel_rfl) (fun _ _ _ h => h) (by rfl) (by assumption) ?ha104 ?hl104 ?hh104; (case ha104 => (simp only [Act.put, hq1, hq2, hq3, Option.isNone, Bool.not_true, Bool.not_false]; (try with_reducible rfl))); (case hl104 => (simp only [Act.put, hq1, hq2, hq3, Option.isNone, Bool.not_true, Bool.not_false]; (try with_reducible rfl)))) | (refine last_take (i := 2) (v := ?hV104) (a' := ?hA104) (l' := ?hL104) rfl (by kernel_rfl) (by kernel_rfl) (by kernel_rfl) (by kernel_rfl) (fun _ _ _ h => h) (by rfl) ?hv104 (by assumption) ?ha104 ?hl104 ?hh104; (case hv104 => (intro w hSw; (try dsimp only at hSw); go_simp; (try simp only [run_eql_slice_nil _ 36 _ _ _ _ Try.underlying36, Result.andThen_ok]); (try with_reducible rfl))); (case ha104 => (simp only [Act.put, hq1, hq2, hq3, Option.isNone, Bool.not_true, Bool.not_false]; (try with_reducible rfl))); (case hl104 => (simp only [Act.put, hq1, hq2, hq3, Option.isNone, Bool.not_true, Bool.not_false]; (try with_reducible rfl))))); (first | (refine last_skip (i := 3) (a' := ?hA105) (l' := ?hL105) rfl (by kernel_rfl) (by kernel_rfl) (by kernel_rfl) (by kernel_rfl) (fun _ _ _ h => h) (by rfl) (by assumption) ?ha105 ?hl105 ?hh105; (case ha105 => (simp only [Act.put, hq1, hq2, hq3, Option.isNone, Bool.not_true, Bool.not_false]; (try with_reducible rfl))); (case hl105 => (simp only [Act.put, hq1, hq2, hq3, Option.isNone, Bool.not_true, Bool.not_false]; (try with_reducible rfl)))) | (refine last_take (i := 3) (v := ?hV105) (a' := ?hA105) (l' := ?hL105) rfl (by kernel_rfl) (by kernel_rfl) (by kernel_rfl) (by kernel_rfl) (fun _ _ _ h => h) (by rfl) ?hv105 (by assumption) ?ha105 ?hl105 ?hh105; (case hv105 => (intro w hSw; (try dsimp only at hSw); go_simp; (try simp only [run_eql_slice_nil _ 36 _ _ _ _ Try.underlying36, Result.andThen_ok]); (try with_reducible rfl))); (case ha105 => (simp only [Act.put, hq1, hq2, hq3, Option.isNone, Bool.not_true, Bool.not_false]; (try with_reducible rfl))); (case hl105 => (simp only [Act.put, hq1, hq2, hq3, Option.isNone, Bool.not_true, Bool.not_false]; (try with_reducible rfl))))); (first | (refine last_skip (i := 4) (a' := ?hA106) (l' := ?hL106) rfl (by kernel_rfl) (by kernel_rfl) (by kernel_rfl) (by kernel_rfl) (fun _ _ _ h => h) (by rfl) (by assumption) ?ha106 ?hl106 ?hh106; (case ha106 => (simp only [Act.put, hq1, hq2, hq3, Option.isNone, Bool.not_true, Bool.not_false]; (try with_reducible rfl))); (case hl106 => (simp only [Act.put, hq1, hq2, hq3, Option.isNone, Bool.not_true, Bool.not_false]; (try with_reducible rfl)))) | (refine last_take (i := 4) (v := ?hV106) (a' := ?hA106) (l' := ?hL106) rfl (by kernel_rfl) (by kernel_rfl) (by kernel_rfl) (by kernel_rfl) (fun _ _ _ h => h) (by rfl) ?hv106 (by assumption) ?ha106 ?hl106 ?hh106; (case hv106 => (intro w hSw; (try dsimp only at hSw); go_simp; (try simp only [run_eql_slice_nil _ 36 _ _ _ _ Try.underlying36, Result.andThen_ok]); (try with_reducible rfl))); (case ha106 => (simp only [Act.put, hq1, hq2, hq3, Option.isNone, Bool.not_true, Bool.not_false]; (try with_reducible rfl))); (case hl106 => (simp only [Act.put, hq1, hq2, hq3, Option.isNone, Bool.not_true, Bool.not_false]; (try with_reducible rfl))))); (first | (refine last_skip (i := 5) (a' := ?hA107) (l' := ?hL107) rfl (by kernel_rfl) (by kernel_rfl) (by kernel_rfl) (by kernel_rfl) (fun _ _ _ h => h) (by rfl) (by assumption) ?ha107 ?hl107 ?hh107; (case ha107 => (simp only [Act.put, hq1, hq2, hq3, Option.isNone, Bool.not_true, Bool.not_false]; (try with_reducible rfl))); (case hl107 => (simp only [Act.put, hq1, hq2, hq3, Option.isNone, Bool.not_true, Bool.not_false]; (try with_reducible rfl)))) | (refine last_take (i := 5) (v := ?hV107) (a' := ?hA107) (l' := ?hL107) rfl (by kernel_rfl) (by kernel_rfl) (by kernel_rfl) (by kernel_rfl) (fun _ _ _ h => h) (by rfl) ?hv107 (by assumption) ?ha107 ?hl107 ?hh107; (case hv107 => (intro w hSw; (try dsimp only at hSw); go_simp; (try simp only [run_eql_slice_nil _ 36 _ _ _ _ Try.underlying36, Result.andThen_ok]); (try with_reducible rfl))); (case ha107 => (simp only [Act.put, hq1, hq2, hq3, Option.isNone, Bool.not_true, Bool.not_false]; (try with_reducible rfl))); (case hl107 => (simp only [Act.put, hq1, hq2, hq3, Option.isNone, Bool.not_true, Bool.not_false]; (try with_reducible rfl))))); (first | (refine last_skip (i := 6) (a' := ?hA108) (l' := ?hL108) rfl (by kernel_rfl) (by kernel_rfl) (by kernel_rfl) (by kernel_rfl) (fun _ _ _ h => h) (by rfl) (by assumption) ?ha108 ?hl108 ?hh108; (case ha108 => (simp only [Act.put, hq1, hq2, hq3, Option.isNone, Bool.not_true, Bool.not_false]; (try with_reducible rfl))); (case hl108 => (simp only [Act.put, hq1, hq2, hq3, Option.isNone, Bool.not_true, Bool.not_false]; (try with_reducible rfl)))) | (refine last_take (i := 6) (v := ?hV108) (a' := ?hA108) (l' := ?hL108) rfl (by kernel_rfl) (by kernel_rfl) (by kernel_rfl) (by kernel_rfl) (fun _ _ _ h => h) (by rfl) ?hv108 (by assumption) ?ha108 ?hl108 ?hh108; (case hv108 => (intro w hSw; (try dsimp only at hSw); go_simp; (try simp only [run_eql_slice_nil _ 36 _ _ _ _ Try.underlying36, Result.andThen_ok]); (try with_reducible rfl))); (case ha108 => (simp only [Act.put, hq1, hq2, hq3, Option.isNone, Bool.not_true, Bool.not_false]; (try with_reducible rfl))); (case hl108 => (simp only [Act.put, hq1, hq2, hq3, Option.isNone, Bool.not_true, Bool.not_false]; (try with_reducible rfl))))); (first | (refine last_skip (i := 7) (a' := ?hA109) (l' := ?hL109) rfl (by kernel_rfl) (by kernel_rfl) (by kernel_rfl) (by kernel_rfl) (fun _ _ _ h => h) (by rfl) (by assumption) ?ha109 ?hl109 ?hh109; (case ha109 => (simp only [Act.put, hq1, hq2, hq3, Option.isNone, Bool.not_true, Bool.not_false]; (try with_reducible rfl))); (case hl109 => (simp only [Act.put, hq1, hq2, hq3, Option.isNone, Bool.not_true, Bool.not_false]; (try with_reducible rfl)))) | (refine last_take (i := 7) (v := ?hV109) (a' := ?hA109) (l' := ?hL109) rfl (by kernel_rfl) (by kernel_rfl) (by kernel_rfl) (by kernel_rfl) (fun _ _ _ h => h) (by rfl) ?hv109 (by assumption) ?ha109 ?hl109 ?hh109; (case hv109 => (intro w hSw; (try dsimp only at hSw); go_simp; (try simp only [run_eql_slice_nil _ 36 _ _ _ _ Try.underlying36, Result.andThen_ok]); (try with_reducible rfl))); (case ha109 => (simp only [Act.put, hq1, hq2, hq3, Option.isNone, Bool.not_true, Bool.not_false]; (try with_reducible rfl))); (case hl109 => (simp only [Act.put, hq1, hq2, hq3, Option.isNone, Bool.not_true, Bool.not_false]; (try with_reducible rfl))))); (first | (refine last_skip (i := 8) (a' := ?hA110) (l' := ?hL110) rfl (by kernel_rfl) (by kernel_rfl) (by kernel_rfl) (by kernel_rfl) (fun _ _ _ h => h) (by rfl) (by assumption) ?ha110 ?hl110 ?hh110; (case ha110 => (simp only [Act.put, hq1, hq2, hq3, Option.isNone, Bool.not_true, Bool.not_false]; (try with_reducible rfl))); (case hl110 => (simp only [Act.put, hq1, hq2, hq3, Option.isNone, Bool.not_true, Bool.not_false]; (try with_reducible rfl)))) | (refine last_take (i := 8) (v := ?hV110) (a' := ?hA110) (l' := ?hL110) rfl (by kernel_rfl) (by kernel_rfl) (by kernel_rfl) (by kernel_rfl) (fun _ _ _ h => h) (by rfl) ?hv110 (by assumption) ?ha110 ?hl110 ?hh110; (case hv110 => (intro w hSw; (try dsimp only at hSw); go_simp; (try simp only [run_eql_slice_nil _ 36 _ _ _ _ Try.underlying36, Result.andThen_ok]); (try with_reducible rfl))); (case ha110 => (simp only [Act.put, hq1, hq2, hq3, Option.isNone, Bool.not_true, Bool.not_false]; (try with_reducible rfl))); (case hl110 => (simp only [Act.put, hq1, hq2, hq3, Option.isNone, Bool.not_true, Bool.not_false]; (try with_reducible rfl))))); (first | (refine last_skip (i := 9) (a' := ?hA111) (l' := ?hL111) rfl (by kernel_rfl) (by kernel_rfl) (by kernel_rfl) (by kernel_rfl) (fun _ _ _ h => h) (by rfl) (by assumption) ?ha111 ?hl111 ?hh111; (case ha111 => (simp only [Act.put, hq1, hq2, hq3, Option.isNone, Bool.not_true, Bool.not_false]; (try with_reducible rfl))); (case hl111 => (simp only [Act.put, hq1, hq2, hq3, Option.isNone, Bool.not_true, Bool.not_false]; (try with_reducible rfl)))) | (refine last_take (i := 9) (v := ?hV111) (a' := ?hA111) (l' := ?hL111) rfl (by kernel_rfl) (by kernel_rfl) (by kernel_rfl) (by kernel_rfl) (fun _ _ _ h => h) (by rfl) ?hv111 (by assumption) ?ha111 ?hl111 ?hh111; (case hv111 => (intro w hSw; (try dsimp only at hSw); go_simp; (try simp only [run_eql_slice_nil _ 36 _ _ _ _ Try.underlying36, Result.andThen_ok]); (try with_reducible rfl))); (case ha111 => (simp only [Act.put, hq1, hq2, hq3, Option.isNone, Bool.not_true, Bool.not_false]; (try with_reducible rfl))); (case hl111 => (simp only [Act.put, hq1, hq2, hq3, Option.isNone, Bool.not_true, Bool.not_false]; (try with_reducible rfl))))); (first | (refine last_skip (i := 11) (a' := ?hA112) (l' := ?hL112) rfl (by kernel_rfl) (by kernel_rfl) (by kernel_rfl) (by kernel_rfl) (fun _ _ _ h => h) (by rfl) (by assumption) ?ha112 ?hl112 ?hh112; (case ha112 => (simp only [Act.put, hq1, hq2, hq3, Option.isNone, Bool.not_true, Bool.not_false]; (try with_reducible rfl))); (case hl112 => (simp only [Act.put, hq1, hq2, hq3, Option.isNone, Bool.not_true, Bool.not_false]; (try with_reducible rfl)))) | (refine last_take (i := 11) (v := ?hV112) (a' := ?hA112) (l' := ?hL112) rfl (by kernel_rfl) (by kernel_rfl) (by kernel_rfl) (by kernel_rfl) (fun _ _ _ h => h) (by rfl) ?hv112 (by assumption) ?ha112 ?hl112 ?hh112; (case hv112 => (intro w hSw; (try dsimp only at hSw); go_simp; (try simp only [run_eql_slice_nil _ 36 _ _ _ _ Try.underlying36, Result.andThen_ok]); (try with_reducible rfl))); (case ha112 => (simp only [Act.put, hq1, hq2, hq3, Option.isNone, Bool.not_true, Bool.not_false]; (try with_reducible rfl))); (case hl112 => (simp only [Act.put, hq1, hq2, hq3, Option.isNone, Bool.not_true, Bool.not_false]; (try with_reducible rfl))))); (first | (refine last_skip (i := 12) (a' := ?hA113) (l' := ?hL113) rfl (by kernel_rfl) (by kernel_rfl) (by kernel_rfl) (by kernel_rfl) (fun _ _ _ h => h) (by rfl) (by assumption) ?ha113 ?hl113 ?hh113; (case ha113 => (simp only [Act.put, hq1, hq2, hq3, Option.isNone, Bool.not_true, Bool.not_false]; (try with_reducible rfl))); (case hl113 => (simp only [Act.put, hq1, hq2, hq3, Option.isNone, Bool.not_true, Bool.not_false]; (try with_reducible rfl)))) | (refine last_take (i := 12) (v := ?hV113) (a' := ?hA113) (l' := ?hL113) rfl (by kernel_rfl) (by kernel_rfl) (by kernel_rfl) (by kernel_rfl) (fun _ _ _ h => h) (by rfl) ?hv113 (by assumption) ?ha113 ?hl113 ?hh113; (case hv113 => (intro w hSw; (try dsimp only at hSw); go_simp; (try simp only [run_eql_slice_nil _ 36 _ _ _ _ Try.underlying36, Result.andThen_ok]); (try with_reducible rfl))); (case ha113 => (simp only [Act.put, hq1, hq2, hq3, Option.isNone, Bool.not_true, Bool.not_false]; (try with_reducible rfl))); (case hl113 => (simp only [Act.put, hq1, hq2, hq3, Option.isNone, Bool.not_true, Bool.not_false]; (try with_reducible rfl))))))
      refine last_one (i := 10) rfl (by kernel_rfl) (fun K hK => ?_)
      go_simp
      go_at_call 25
      (with_reducible refine (cloneBytes_any _ _ _ _ r.cargo (HYS.out.go sByte (HF3.out.trans (Below.refl _ _).drew)) HYL.out).mono ?_)
      rintro e w5 ⟨v5, rfl, ho5, hf5⟩
      obtain ⟨A5, c5, rfl, hd5, hs5⟩ := own_bytes ho5
      have HF35 : Hid (Fr W3 w5) := Fr.trans (Below.refl _ _).drew hf5
      have HS5 : Hid (Sl 1 eByte w5 (NW W3.heap.size w5.heap.size) A5 r.cargo.length r.cargo) := hs5
      have HD5 := Lib.hid hd5
      clear ho5 hf5 hs5 hd5
      (refine last_back hK (a' := ?hA138) (l' := ?hL138) ?ha138 ?hl138 (hSC.out _ HF35.out) (fun hHeld => ?hh138); (case ha138 => first | with_reducible rfl | (simp only [Act.put, hq1, hq2, hq3, Option.isNone, Bool.not_true, Bool.not_false]; (try with_reducible rfl))); (case hl138 => (simp only [Act.put, hq1, hq2, hq3, Option.isNone, Bool.not_true, Bool.not_false]; (try with_reducible rfl))); clear hK K)
      ((first | (refine last_skip (i := 13) (a' := ?hA114) (l' := ?hL114) rfl (by kernel_rfl) (by kernel_rfl) (by kernel_rfl) (by kernel_rfl) (fun _ _ _ h => h) (by rfl) (by assumption) ?ha114 ?hl114 ?hh114; (case ha114 => (simp only [Act.put, hq1, hq2, hq3, Option.isNone, Bool.not_true, Bool.not_false]; (try with_reducible rfl))); (case hl114 => (simp only [Act.put, hq1, hq2, hq3, Option.isNone, Bool.not_true, Bool.not_false]; (try with_reducible rfl)))) | (refine last_take (i := 13) (v := ?hV114) (a' := ?hA114) (l' := ?hL114) rfl (by kernel_rfl) (by kernel_rfl) (by kernel_rfl) (by kernel_rfl) (fun _ _ _ h => h) (by rfl) ?hv114 (by assumption) ?ha114 ?hl114 ?hh114; (case hv114 => (intro w hSw; (try dsimp only at hSw); go_simp; (try simp only [run_eql_slice_nil _ 36 _ _ _ _ Try.underlying36, Result.andThen_ok]); (try with_reducible rfl))); (case ha114 => (simp only [Act.put, hq1, hq2, hq3, Option.isNone, Bool.not_true, Bool.not_false]; (try with_reducible rfl))); (case hl114 => (simp only [Act.put, hq1, hq2, hq3, Option.isNone, Bool.not_true, Bool.not_false]; (try with_reducible rfl))))))
      refine last_one (i := 14) rfl (by kernel_rfl) (fun K hK => ?_)
      go_simp
      obtain ⟨W6, hW6⟩ : ∃ W6, W6 = w5.alloc (.cells #[.int .i64 r.h.frm, .int .i64 r.h.seq, .int .i64 r.h.to, .int .i64 r.h.till, .int .i64 r.h.bytes, .int .i64 r.h.block, .bool true, .slice A5 r.cargo.length c5, .slice none 0 0, .int .i64 r.n, .int .i64 0, .int .i64 0, .int .i64 0, .slice none 0 0, .bool false, .bool false] 46) := ⟨_, rfl⟩
      obtain ⟨vb, hvb⟩ : ∃ vb, vb = w5.heap.size := ⟨_, rfl⟩
      have HF56 : Hid (Fr w5 W6) := by rw [hW6]; exact frAlloc _ _
      have HV6 : Hid (W6.heap[vb]? = some (.cells (kpCells (Kp.sent r) A5 r.cargo.length c5 (.slice none 0 0) (.slice none 0 0)).toArray 46 (0, 0))) := by rw [hW6]; exact heap_new hvb
      have HF36 : Hid (Fr W3 W6) := HF35.out.trans HF56.out
      have H6 : Hid (PlM W6 base pb p A c) := H3.out.fr HF36.out
      have HO6 : Hid (Own 16 (eHi base eKq) W6 base 46 (.slice A n c) (p.keep.map fun x => (false, x))) := by
        have := H6.out.own.toQ
        rw [← HN.out] at this
        exact this
      have HX6 : Hid (eHi base eKq W6 (fun b => b < W6.heap.size ∧ (Value.slice A n c).ownBlock ≠ some b) (fun j => (kpCells (Kp.sent r) A5 r.cargo.length c5 (.slice none 0 0) (.slice none 0 0))[j]?) (false, Kp.sent r)) := by
        have w0 : wfI 0 := wfI.mk (by decide)
        refine ⟨eKp_iff.2 ⟨A5, r.cargo.length, c5, none, 0, 0, none, 0, 0, ⟨rfl, rfl, rfl, rfl, rfl, rfl, rfl, rfl, rfl, rfl, rfl, rfl, rfl, rfl, rfl, rfl⟩, ⟨hwh, hwn, w0, w0, w0⟩, ⟨⟨by rw [HYN.out]; exact HYL.out, HD5.out⟩, ?_⟩, ⟨⟨by unfold lim; omega, by omega, by unfold maxLen; omega⟩, Sl.nil⟩, ⟨by unfold lim; omega, by omega, by unfold maxLen; omega⟩, Sl.nil⟩, fun e => by cases e⟩
        refine (HS5.out.keep sByte fun b hb => HF56.out.cell hb.2).more sByte fun b hb => ⟨⟨Nat.lt_of_lt_of_le hb.2 HF56.out.size, fun e => ?_⟩, ?_⟩
        · have h1 := H3.out.own
          rw [← HN.out] at h1
          have := (h1.ge e).2
          have := hb.1
          omega
        · have := hb.1
          have := HF3.out.size
          omega
      rw [← hW6, ← hvb]
      have HVB := Lib.hid hvb
      clear hW6 hvb
      (refine last_back hK (a' := ?hA139) (l' := ?hL139) ?ha139 ?hl139 (hSC.out _ HF36.out) (fun hHeld => ?hh139); (case ha139 => first | with_reducible rfl | (simp only [Act.put, hq1, hq2, hq3, Option.isNone, Bool.not_true, Bool.not_false]; (try with_reducible rfl))); (case hl139 => (simp only [Act.put, hq1, hq2, hq3, Option.isNone, Bool.not_true, Bool.not_false]; (try with_reducible rfl))); clear hK K)
      refine last_one (i := 15) rfl (by kernel_rfl) (fun K hK => ?_)
      go_simp
      go_at_call 41
      with_reducible refine (insertKepts_own (N := base) W6 base pa vb (.slice A n c) (p.keep.map fun x => (false, x)) (false, Kp.sent r) (kpCells (Kp.sent r) A5 r.cargo.length c5 (.slice none 0 0) (.slice none 0 0)) 46 HO6.out (by rw [List.length_map, ← HN.out]; omega) HV6.out (fun e => by have := (HO6.out.ge e).2; have h1 := H3.out.own; rw [← HN.out] at h1; have := (h1.ge e).2; have := HF35.out.size; have := HVB.out; omega) rfl (by simp [kpCells, Value.oneCell']) HX6.out (by rw [List.length_map, ← HN.out]; unfold lim; omega) (by have := HF3.out.size; have := HF36.out.size; omega)).mono ?_
      rintro e w7 ⟨v7, rfl, ho7, hg7⟩
      obtain ⟨A7, n7, c7, rfl⟩ := own_isSl ho7
      have hno : ∀ b, (Value.slice A n c).ownBlock = some b → base ≤ b ∧ b < w.heap.size := fun b hb => by
        have h1 := H.out.own
        rw [← HN.out] at h1
        exact h1.ge hb
      have hk7 : Chg (fun b => (Value.slice A n c).ownBlock = some b) W6 w7 := ⟨hg7.os, hg7.tape, hg7.output, hg7.size, fun b hb hs => hg7.block b hb fun e => hs e.symm⟩
      have hno1 : ¬ (Value.slice A n c).ownBlock = some pb := fun e => by have := hno _ e; omega
      have hno2 : ¬ (Value.slice A n c).ownBlock = some q := fun e => by have := hno _ e; have := HQW.out; omega
      have hS7 : w7.cell? ⟨pb, 1, none⟩ = some (.slice A n c) ∧ w7.cell? ⟨q, 2, none⟩ = some (.int .i64 r.n) ∧ w7.cell? ⟨q, 4, none⟩ = some (.int .i64 r.h.frm) ∧ w7.cell? ⟨q, 5, none⟩ = some (.int .i64 r.h.seq) ∧ w7.cell? ⟨q, 6, none⟩ = some (.int .i64 r.h.to) ∧ w7.cell? ⟨q, 7, none⟩ = some (.int .i64 r.h.till) ∧ w7.cell? ⟨q, 8, none⟩ = some (.int .i64 r.h.bytes) ∧ w7.cell? ⟨q, 9, none⟩ = some (.int .i64 r.h.block) ∧ w7.cell? ⟨q, 12, none⟩ = some (.slice B2 nb2 cb2) := by
        obtain ⟨k1, k2, k3, k4, k5, k6, k7, k8, k9⟩ := hSC.out _ HF36.out
        exact ⟨(hk7.cell (World.block_lt_of_cell? W6 _ k1) hno1).trans k1, (hk7.cell (World.block_lt_of_cell? W6 _ k2) hno2).trans k2, (hk7.cell (World.block_lt_of_cell? W6 _ k3) hno2).trans k3, (hk7.cell (World.block_lt_of_cell? W6 _ k4) hno2).trans k4, (hk7.cell (World.block_lt_of_cell? W6 _ k5) hno2).trans k5, (hk7.cell (World.block_lt_of_cell? W6 _ k6) hno2).trans k6, (hk7.cell (World.block_lt_of_cell? W6 _ k7) hno2).trans k7, (hk7.cell (World.block_lt_of_cell? W6 _ k8) hno2).trans k8, (hk7.cell (World.block_lt_of_cell? W6 _ k9) hno2).trans k9⟩
      have hb7 := hk7.blk H6.out.blk hno1
      rw [← HN.out] at hb7
      have HO7 := Lib.hid ho7
      have HK7 := Lib.hid hk7
      (refine last_back hK (a' := ?hA140) (l' := ?hL140) ?ha140 ?hl140 (hS7) (fun hHeld => ?hh140); (case ha140 => first | with_reducible rfl | (simp only [Act.put, hq1, hq2, hq3, Option.isNone, Bool.not_true, Bool.not_false]; (try with_reducible rfl))); (case hl140 => (simp only [Act.put, hq1, hq2, hq3, Option.isNone, Bool.not_true, Bool.not_false]; (try with_reducible rfl))); clear hK K)
      refine last_one (i := 16) rfl (by kernel_rfl) (fun K hK => ?_)
      go_simp
      (refine last_back hK (a' := ?hA141) (l' := ?hL141) ?ha141 ?hl141 (hS7) (fun hHeld => ?hh141); (case ha141 => first | with_reducible rfl | (simp only [Act.put, hq1, hq2, hq3, Option.isNone, Bool.not_true, Bool.not_false]; (try with_reducible rfl))); (case hl141 => (simp only [Act.put, hq1, hq2, hq3, Option.isNone, Bool.not_true, Bool.not_false]; (try with_reducible rfl))); clear hK K)
      ((first | (refine last_skip (i := 17) (a' := ?hA115) (l' := ?hL115) rfl (by kernel_rfl) (by kernel_rfl) (by kernel_rfl) (by kernel_rfl) (fun _ _ _ h => h) (by rfl) (by assumption) ?ha115 ?hl115 ?hh115; (case ha115 => (simp only [Act.put, hq1, hq2, hq3, Option.isNone, Bool.not_true, Bool.not_false]; (try with_reducible rfl))); (case hl115 => (simp only [Act.put, hq1, hq2, hq3, Option.isNone, Bool.not_true, Bool.not_false]; (try with_reducible rfl)))) | (refine last_take (i := 17) (v := ?hV115) (a' := ?hA115) (l' := ?hL115) rfl (by kernel_rfl) (by kernel_rfl) (by kernel_rfl) (by kernel_rfl) (fun _ _ _ h => h) (by rfl) ?hv115 (by assumption) ?ha115 ?hl115 ?hh115; (case hv115 => (intro w hSw; (try dsimp only at hSw); go_simp; (try simp only [run_eql_slice_nil _ 36 _ _ _ _ Try.underlying36, Result.andThen_ok]); (try with_reducible rfl))); (case ha115 => (simp only [Act.put, hq1, hq2, hq3, Option.isNone, Bool.not_true, Bool.not_false]; (try with_reducible rfl))); (case hl115 => (simp only [Act.put, hq1, hq2, hq3, Option.isNone, Bool.not_true, Bool.not_false]; (try with_reducible rfl))))))
      have y1 := blk_free (i := 1) hb7
      have hpl7 := (Array.getElem?_eq_some_iff.1 hb7).1
      have mp1 := hS7.1
      refine last_one (i := 18) rfl (by kernel_rfl) (fun K hK => ?_)
      go_simp
      refine last_end hK (by kernel_rfl) ?_
      clear hK K
      obtain rfl : n7 = (insKp p.keep (Kp.sent r)).length := by
        rw [HO7.out.len _ _ _ rfl]
        unfold insKp
        rw [show placeAt p.keep (Kp.sent r).h = pa from Hpa.out.symm]
        simp
      obtain ⟨W8, hW8⟩ : ∃ W8, W8 = w7.setCell ⟨pb, 1, none⟩ (.slice A7 (insKp p.keep (Kp.sent r)).length c7) := ⟨_, rfl⟩
      have hb8 : W8.heap[pb]? = some (.cells #[.int .i64 p.me, .slice A7 (insKp p.keep (Kp.sent r)).length c7, .int .i64 p.time, .int .i64 p.seq] 25 (0, 0)) := by rw [hW8]; have := heap_setCell_same w7 pb 1 _ _ (.slice A7 (insKp p.keep (Kp.sent r)).length c7) hb7; simpa using this
      have hk8 : Chg (fun b => b = pb) w7 W8 := by rw [hW8]; exact Chg.set (S := fun b => b = pb) (p := ⟨pb, 1, none⟩) (Chg.refl _ _) rfl _
      rw [← hW8]
      (obtain ⟨bp0, bp1, bp2, bp3⟩ := box4_ hb8)
      have y3 := blk_free (i := 3) hb8
      have hpl8 := (Array.getElem?_eq_some_iff.1 hb8).1
      have hws : IntKind.i64.wrap (p.seq + 1) = p.seq + 1 := by rw [IntKind.wrap_i64]; omega
      have hk9 : Chg (fun b => b = pb) w7 (W8.setCell ⟨pb, 3, none⟩ (.int .i64 (p.seq + 1))) := Chg.set (S := fun b => b = pb) (p := ⟨pb, 3, none⟩) hk8 rfl _
      have HP9 : Hid (PlM (W8.setCell ⟨pb, 3, none⟩ (.int .i64 (p.seq + 1))) base pb { p with keep := insKp p.keep (Kp.sent r), seq := p.seq + 1 } A7 c7) := by
        refine ⟨?_, hpb, ?_⟩
        · have := heap_setCell_same W8 pb 3 _ _ (.int .i64 (p.seq + 1)) hb8
          simpa using this
        · have h1 := HO7.out.ofQ
          have e1 : (List.take pa (p.keep.map fun x => (false, x)) ++ (false, Kp.sent r) :: List.drop pa (p.keep.map fun x => (false, x))).map (·.2) = insKp p.keep (Kp.sent r) := by
            unfold insKp
            rw [show placeAt p.keep (Kp.sent r).h = pa from Hpa.out.symm]
            simp [List.map_take, List.map_drop, List.map_map, Function.comp_def]
          rw [e1] at h1
          exact h1.hiChg sKp hk9 fun b hb => by rw [hb]; exact hpb
      have HC9 : Hid (Chg (PlS base pb) w (W8.setCell ⟨pb, 3, none⟩ (.int .i64 (p.seq + 1)))) := by
        have q1 : Chg (PlS base pb) w W6 := (HF3.out.trans HF36.out).chg
        have q2 : Chg (PlS base pb) W6 w7 := HK7.out.more fun b hb => .inr (hno b hb).1
        exact (q1.trans q2).trans (hk9.more fun b hb => .inl hb)
      clear hb7 hb8 hk8 hk9 hk7 hW8 hS7 y1 hpl7 mp1 hno hno1 hno2 hSC
      go_wp2_with fail
      go_ret
      rw [E4.out]
      exact ⟨rfl, HC9.out, _, _, HP9.out⟩
end Go.Proofs.Ytojoodmnmhcojaa
namespace Go.Proofs.Ytojoodmnmhcojaa
open Go.RowKit

set_option maxHeartbeats 1000000 in
theorem eqPlan (d : Nat) (a b c e : Int) (w : World) : (Op.equalIn (d + 2) 32 (.agg #[.int .i64 a, .int .i64 b]) (.agg #[.int .i64 c, .int .i64 e])).run Try.prog w = .ok (decide (a = c ∧ b = e)) w := by
  have hS : Try.prog.underlying 32 = some (.struct (Try.prog.fieldsOf 32)) := by kernel_rfl
  rw [run_equalIn_agg w (d + 1) 32 _ _ hS (by kernel_rfl)]
  simp only [Program.fieldsOf, Try.underlying32]
  go_simp
  by_cases h1 : a = c <;> by_cases h2 : b = e <;> simp [h1, h2]
set_option maxHeartbeats 1000000 in
theorem eqHd (x y : Hd) (w : World) : (Op.equalIn 10000 34 (.agg #[.int .i64 x.frm, .int .i64 x.seq, .int .i64 x.to, .int .i64 x.till, .int .i64 x.bytes, .int .i64 x.block]) (.agg #[.int .i64 y.frm, .int .i64 y.seq, .int .i64 y.to, .int .i64 y.till, .int .i64 y.bytes, .int .i64 y.block])).run Try.prog w = .ok (decide (x = y)) w := by
  obtain ⟨a0, a1, a2, a3, a4, a5⟩ := x
  obtain ⟨b0, b1, b2, b3, b4, b5⟩ := y
  have hS : Try.prog.underlying 34 = some (.struct (Try.prog.fieldsOf 34)) := by kernel_rfl
  have hp := fun W => eqPlan 9997 a4 a5 b4 b5 W
  rw [show (10000 : Nat) = 9999 + 1 from rfl, run_equalIn_agg w 9999 34 _ _ hS (by kernel_rfl)]
  simp only [Program.fieldsOf, Try.underlying34]
  go_simp
  by_cases h1 : a0 = b0 <;> by_cases h2 : a1 = b1 <;> by_cases h3 : a2 = b2 <;> by_cases h4 : a3 = b3 <;> by_cases h5 : a4 = b4 <;> by_cases h6 : a5 = b5 <;> simp [h1, h2, h3, h4, h5, h6]
end Go.Proofs.Ytojoodmnmhcojaa
namespace Go.Proofs.Ytojoodmnmhcojaa

theorem ahead_trans {a b c : Hd} (h : aheadB a b = true) (k : aheadB b c = true) : aheadB a c = true := by
  simp only [aheadB, Bool.or_eq_true, Bool.and_eq_true, decide_eq_true_eq] at h k ⊢; omega
theorem ahead_ne {a b : Hd} (h : aheadB a b = true) : ¬ (a.frm = b.frm ∧ a.seq = b.seq) := by
  simp only [aheadB, Bool.or_eq_true, Bool.and_eq_true, decide_eq_true_eq] at h; omega
theorem ahead_asymm {a b : Hd} (h : aheadB a b = true) : aheadB b a = false := by
  simp only [aheadB, Bool.or_eq_true, Bool.and_eq_true, decide_eq_true_eq, Bool.or_eq_false_iff, Bool.and_eq_false_iff, decide_eq_false_iff_not] at h ⊢; omega
theorem ahead_total {a b : Hd} (h : ¬ (a.frm = b.frm ∧ a.seq = b.seq)) (k : aheadB a b = false) : aheadB b a = true := by
  simp only [aheadB, Bool.or_eq_true, Bool.and_eq_true, decide_eq_true_eq, Bool.or_eq_false_iff, Bool.and_eq_false_iff, decide_eq_false_iff_not] at k ⊢; omega
/-- Rising. -/
def Up (l : List Kp) : Prop := l.Pairwise fun a b => aheadB a.h b.h = true
theorem keepsErr_iff {me time seq : Int} : ∀ {l : List Kp} {prev : Option Hd}, keepsErr me time seq prev l = 0 ↔ (∀ k ∈ l, keptCheck k me time = 0 ∧ (k.own = true → k.h.seq < seq)) ∧ (∀ q, prev = some q → ∀ k ∈ l, aheadB q k.h = true) ∧ Up l
  | [], prev => by simp [keepsErr, Up]
  | k :: l, prev => by
    rw [keepsErr]
    constructor
    · intro h
      split at h
      · rename_i h1; exact absurd h h1
      · split at h
        · cases h
        · split at h
          · cases h
          · rename_i h1 h2 h3
            obtain ⟨h4, h5, h6⟩ := keepsErr_iff.1 h
            have hq : ∀ q, prev = some q → aheadB q k.h = true := by
              rintro q rfl
              simpa using h3
            refine ⟨fun x hx => ?_, fun q e x hx => ?_, ?_⟩
            · rcases List.mem_cons.1 hx with rfl | hx
              · exact ⟨by simpa using h1, fun ho => by simp only [ho, true_and] at h2; omega⟩
              · exact h4 x hx
            · rcases List.mem_cons.1 hx with rfl | hx
              · exact hq q e
              · exact ahead_trans (hq q e) (h5 _ rfl x hx)
            · exact List.pairwise_cons.2 ⟨fun x hx => h5 _ rfl x hx, h6⟩
    · rintro ⟨h1, h2, h3⟩
      obtain ⟨h4, h5⟩ := List.pairwise_cons.1 h3
      obtain ⟨h6, h7⟩ := h1 k List.mem_cons_self
      rw [if_neg (by simp [h6]), if_neg (by rintro ⟨ho, hs⟩; have := h7 ho; omega), if_neg]
      · exact keepsErr_iff.2 ⟨fun x hx => h1 x (List.mem_cons_of_mem _ hx), fun q e x hx => by injection e with e; subst e; exact h4 x hx, h5⟩
      · cases prev with
        | none => simp
        | some q => simp [h2 q rfl k List.mem_cons_self]
/-- A right place. -/
structure PcOk (p : Pc) : Prop where
  me : 0 ≤ p.me ∧ p.me < 4
  time : 0 ≤ p.time ∧ p.time ≤ 1000000
  seq : 0 ≤ p.seq ∧ p.seq ≤ 50
  len : p.keep.length ≤ 12
  kept : ∀ k ∈ p.keep, keptCheck k p.me p.time = 0
  own : ∀ k ∈ p.keep, k.own = true → k.h.seq < p.seq
  up : Up p.keep
theorem placeCheck_iff {p : Pc} : placeCheck p = 0 ↔ PcOk p := by
  unfold placeCheck
  constructor
  · intro h
    split at h
    · cases h
    · split at h
      · cases h
      · rename_i h1 h2
        obtain ⟨h3, _, h4⟩ := keepsErr_iff.1 h
        exact ⟨by omega, by omega, by omega, by omega, fun k hk => (h3 k hk).1, fun k hk => (h3 k hk).2, h4⟩
  · rintro ⟨h1, h2, h3, h4, h5, h6, h7⟩
    rw [if_neg (by omega), if_neg (by omega)]
    exact keepsErr_iff.2 ⟨fun k hk => ⟨h5 k hk, h6 k hk⟩, fun q e => by (cases e), h7⟩

theorem symsErr_iff {h : Hd} : ∀ {l seen : List Sm}, symsErr h seen l = 0 ↔ (∀ s ∈ l, codeCheck h.bytes h.block s.id s.data.length = 0) ∧ (∀ s ∈ l, ∀ o ∈ seen, o.id ≠ s.id) ∧ l.Pairwise fun a b => a.id ≠ b.id
  | [], seen => by simp [symsErr]
  | s :: l, seen => by
    rw [symsErr]
    constructor
    · intro e
      split at e
      · rename_i h1; exact absurd e h1
      · split at e
        · cases e
        · rename_i h1 h2
          obtain ⟨h3, h4, h5⟩ := symsErr_iff.1 e
          simp only [List.any_eq_true, decide_eq_true_eq, not_exists, not_and] at h2
          refine ⟨fun x hx => ?_, fun x hx o ho => ?_, List.pairwise_cons.2 ⟨fun x hx => h4 x hx s (by simp), h5⟩⟩
          · rcases List.mem_cons.1 hx with rfl | hx
            · simpa using h1
            · exact h3 x hx
          · rcases List.mem_cons.1 hx with rfl | hx
            · exact h2 o ho
            · exact h4 x hx o (List.mem_append_left _ ho)
    · rintro ⟨h1, h2, h3⟩
      obtain ⟨h4, h5⟩ := List.pairwise_cons.1 h3
      rw [if_neg (by simp [h1 s List.mem_cons_self]), if_neg]
      · refine symsErr_iff.2 ⟨fun x hx => h1 x (List.mem_cons_of_mem _ hx), fun x hx o ho => ?_, h5⟩
        rcases List.mem_append.1 ho with ho | ho
        · exact h2 x (List.mem_cons_of_mem _ hx) o ho
        · obtain rfl := List.mem_singleton.1 ho
          exact h4 x hx
      · simp only [List.any_eq_true, decide_eq_true_eq, not_exists, not_and]
        exact fun o ho => h2 s List.mem_cons_self o ho
theorem tookErr_iff : ∀ {l seen : List Tk}, tookErr seen l = 0 ↔ (∀ t ∈ l, 0 ≤ t.place ∧ t.place < 4 ∧ 1 ≤ t.try_ ∧ t.try_ ≤ 9999) ∧ (∀ t ∈ l, ∀ o ∈ seen, o ≠ t) ∧ l.Pairwise fun a b => a ≠ b
  | [], seen => by simp [tookErr]
  | t :: l, seen => by
    rw [tookErr]
    constructor
    · intro e
      split at e
      · cases e
      · split at e
        · cases e
        · rename_i h1 h2
          obtain ⟨h3, h4, h5⟩ := tookErr_iff.1 e
          simp only [List.any_eq_true, decide_eq_true_eq, not_exists, not_and] at h2
          refine ⟨fun x hx => ?_, fun x hx o ho => ?_, List.pairwise_cons.2 ⟨fun x hx => h4 x hx t (by simp), h5⟩⟩
          · rcases List.mem_cons.1 hx with rfl | hx
            · omega
            · exact h3 x hx
          · rcases List.mem_cons.1 hx with rfl | hx
            · exact h2 o ho
            · exact h4 x hx o (List.mem_append_left _ ho)
    · rintro ⟨h1, h2, h3⟩
      obtain ⟨h4, h5⟩ := List.pairwise_cons.1 h3
      rw [if_neg (by have := h1 t List.mem_cons_self; omega), if_neg]
      · refine tookErr_iff.2 ⟨fun x hx => h1 x (List.mem_cons_of_mem _ hx), fun x hx o ho => ?_, h5⟩
        rcases List.mem_append.1 ho with ho | ho
        · exact h2 x (List.mem_cons_of_mem _ hx) o ho
        · obtain rfl := List.mem_singleton.1 ho
          exact h4 x hx
      · simp only [List.any_eq_true, decide_eq_true_eq, not_exists, not_and]
        exact fun o ho => h2 t List.mem_cons_self o ho
/-- A right bundle at a place. -/
structure KpOk (k : Kp) (me time : Int) : Prop where
  head : hdCheck k.h = 0
  till : time < k.h.till
  own : k.own = decide (k.h.frm = me)
  cargo : k.own = decide (0 < k.cargo.length)
  size : k.own = true → (k.cargo.length : Int) = k.h.bytes
  nosym : k.own = true → k.syms = []
  many : k.syms.length ≤ 60 ∧ k.took.length ≤ 40
  syms : ∀ s ∈ k.syms, codeCheck k.h.bytes k.h.block s.id s.data.length = 0
  apart : k.syms.Pairwise fun a b => a.id ≠ b.id
  shares : 0 ≤ k.shares ∧ k.shares ≤ 64
  giving : 0 ≤ k.giving ∧ k.giving ≤ 64
  towards : 0 ≤ k.towards ∧ k.towards < 4
  try_ : 0 ≤ k.try_ ∧ k.try_ ≤ 9999
  none_ : k.giving = 0 → k.towards = 0
  some_ : 0 < k.giving → k.towards ≠ me ∧ k.try_ ≠ 0
  took : ∀ t ∈ k.took, 0 ≤ t.place ∧ t.place < 4 ∧ 1 ≤ t.try_ ∧ t.try_ ≤ 9999
  tooks : k.took.Pairwise fun a b => a ≠ b
  deliv : k.delivered = true → k.h.to = me ∧ k.purged = false
  ended : (k.delivered = true ∨ k.purged = true) → k.syms = [] ∧ k.shares = 0 ∧ k.giving = 0
theorem keptCheck_iff {k : Kp} {me time : Int} : keptCheck k me time = 0 ↔ KpOk k me time := by
  unfold keptCheck sharesCheck
  constructor
  · intro e
    split at e
    · rename_i h; exact absurd e h
    split at e
    · cases e
    split at e
    · cases e
    split at e
    · cases e
    split at e
    · rename_i h; exact absurd e h
    split at e
    · cases e
    split at e
    · cases e
    split at e
    · rename_i h; exact absurd e h
    split at e
    · cases e
    rename_i h1 h2 h3 h4 h5 h6 h7 h8 h9
    simp only [ne_eq, Decidable.not_not, not_or, not_and] at h1 h3 h5 h8 h9
    obtain ⟨s1, s2, s3⟩ := symsErr_iff.1 h5
    obtain ⟨t1, t2, t3⟩ := tookErr_iff.1 h8
    obtain ⟨o1, o2, o3, o4⟩ := h3
    refine ⟨h1, by omega, o1, o2, o3, fun ho => List.length_eq_zero_iff.1 (by have := o4 ho; omega), by omega, s1, s3, by omega, by omega, by omega, by omega, by omega, by omega, t1, t3, fun hd => ⟨(h9.1 hd).1, by simpa using (h9.1 hd).2⟩, fun hd => ?_⟩
    have := h9.2 hd
    exact ⟨List.length_eq_zero_iff.1 (by omega), by omega, by omega⟩
  · rintro ⟨h1, h2, h3, h4, h5, h6, h7, h8, h9, h10, h11, h12, h13, h14, h15, h16, h17, h18, h19⟩
    have e1 : symsErr k.h [] k.syms = 0 := symsErr_iff.2 ⟨h8, fun _ _ _ h => by simp at h, h9⟩
    have e2 : tookErr [] k.took = 0 := tookErr_iff.2 ⟨h16, fun _ _ _ h => by simp at h, h17⟩
    have hz : k.own = true → k.syms.length = 0 := fun ho => by rw [h6 ho]; rfl
    rw [if_neg (by simp [h1]), if_neg (by omega), if_neg, if_neg (by omega), if_neg (by simp [e1]), if_neg (by omega), if_neg (by omega), if_neg (by simp [e2]), if_neg]
    · rintro (⟨hd, hx⟩ | ⟨hd, hx⟩)
      · obtain ⟨a, b⟩ := h18 hd
        rcases hx with hx | hx
        · exact hx a
        · rw [b] at hx; cases hx
      · obtain ⟨a, b, c⟩ := h19 hd
        rw [a] at hx
        simp at hx
        omega
    · rintro (h | h | ⟨ho, h⟩ | ⟨ho, h⟩)
      · exact h h3
      · exact h h4
      · exact h (h5 ho)
      · have := hz ho; omega

theorem Up.inj {l : List Kp} (h : Up l) {i j : Nat} {a b : Kp} (hi : l[i]? = some a) (hj : l[j]? = some b) (e : a.h.frm = b.h.frm ∧ a.h.seq = b.h.seq) : i = j := by
  have h' := List.pairwise_iff_getElem.1 h
  obtain ⟨li, ei⟩ := List.getElem?_eq_some_iff.1 hi
  obtain ⟨lj, ej⟩ := List.getElem?_eq_some_iff.1 hj
  rcases Nat.lt_trichotomy i j with hlt | rfl | hlt
  · have := h' i j li lj hlt
    rw [ei, ej] at this
    exact absurd e (ahead_ne this)
  · rfl
  · have := h' j i lj li hlt
    rw [ei, ej] at this
    exact absurd ⟨e.1.symm, e.2.symm⟩ (ahead_ne this)
theorem findAt_some {frm seq : Int} {l : List Kp} {i : Nat} (h : findAt frm seq l = some i) : ∃ k, l[i]? = some k ∧ k.h.frm = frm ∧ k.h.seq = seq := by
  unfold findAt at h
  obtain ⟨hi, hp, _⟩ := List.findIdx?_eq_some_iff_getElem.1 h
  simp only [Bool.and_eq_true, decide_eq_true_eq] at hp
  exact ⟨l[i], List.getElem?_eq_getElem hi, hp⟩
theorem findAt_none {frm seq : Int} {l : List Kp} (h : findAt frm seq l = none) : ∀ k ∈ l, ¬ (k.h.frm = frm ∧ k.h.seq = seq) := by
  unfold findAt at h
  intro k hk e
  have := List.findIdx?_eq_none_iff.1 h k hk
  simp [e.1, e.2] at this
theorem findAt_mem {frm seq : Int} {l : List Kp} (h : Up l) {i : Nat} {k : Kp} (hi : l[i]? = some k) (e : k.h.frm = frm ∧ k.h.seq = seq) : findAt frm seq l = some i := by
  cases hf : findAt frm seq l with
  | none => exact absurd e (findAt_none hf k (List.mem_of_getElem? hi))
  | some j =>
    obtain ⟨k', hk', e'⟩ := findAt_some hf
    rw [h.inj hi hk' ⟨e.1.trans e'.1.symm, e.2.trans e'.2.symm⟩]

theorem placeAt_le (l : List Kp) (h : Hd) : placeAt l h ≤ l.length := by unfold placeAt; exact (List.takeWhile_sublist _).length_le
theorem take_placeAt (l : List Kp) (h : Hd) : l.take (placeAt l h) = l.takeWhile fun k => aheadB k.h h := by
  unfold placeAt
  exact (List.prefix_iff_eq_take.1 (List.takeWhile_prefix _)).symm
theorem drop_placeAt (l : List Kp) (h : Hd) : l.drop (placeAt l h) = l.dropWhile fun k => aheadB k.h h := by
  unfold placeAt
  induction l with
  | nil => rfl
  | cons k l ih =>
    rw [List.takeWhile_cons, List.dropWhile_cons]
    split
    · simpa using ih
    · rfl
theorem mem_insKp {l : List Kp} {k x : Kp} : x ∈ insKp l k ↔ x = k ∨ x ∈ l := by
  unfold insKp
  rw [List.mem_append, List.mem_cons]
  conv => rhs; rw [← List.take_append_drop (placeAt l k.h) l, List.mem_append]
  constructor
  · rintro (h | h | h)
    · exact .inr (.inl h)
    · exact .inl h
    · exact .inr (.inr h)
  · rintro (h | h | h)
    · exact .inr (.inl h)
    · exact .inl h
    · exact .inr (.inr h)
theorem length_insKp (l : List Kp) (k : Kp) : (insKp l k).length = l.length + 1 := by
  have := placeAt_le l k.h
  unfold insKp
  rw [List.length_append, List.length_cons, List.length_take, List.length_drop]; omega
theorem insKp_at (l : List Kp) (k : Kp) : (insKp l k)[placeAt l k.h]? = some k := by
  have := placeAt_le l k.h
  unfold insKp
  rw [List.getElem?_append_right (by rw [List.length_take]; omega), List.length_take, Nat.min_eq_left this, Nat.sub_self]; rfl
theorem insKp_up {l : List Kp} (h : Up l) {k : Kp} (hk : ∀ x ∈ l, ¬ (x.h.frm = k.h.frm ∧ x.h.seq = k.h.seq)) : Up (insKp l k) := by
  unfold insKp
  rw [take_placeAt, drop_placeAt]
  have h0 := h
  unfold Up at h ⊢
  rw [← List.takeWhile_append_dropWhile (p := fun x => aheadB x.h k.h) (l := l)] at h
  obtain ⟨h1, h2, h3⟩ := List.pairwise_append.1 h
  have ht : ∀ x ∈ l.takeWhile (fun x => aheadB x.h k.h), aheadB x.h k.h = true := fun x hx => List.all_eq_true.1 (List.all_takeWhile (p := fun x : Kp => aheadB x.h k.h) (l := l)) x hx
  have hd : ∀ x ∈ l.dropWhile (fun x => aheadB x.h k.h), aheadB k.h x.h = true := by
    intro x hx
    cases hl : l.dropWhile (fun x => aheadB x.h k.h) with
    | nil => rw [hl] at hx; simp at hx
    | cons y ys =>
      have hy : aheadB y.h k.h = false := by
        have := List.head?_dropWhile_not (fun x : Kp => aheadB x.h k.h) l
        rw [hl] at this
        simpa using this
      have hym : y ∈ l := (List.dropWhile_sublist _).subset (by rw [hl]; exact List.mem_cons_self)
      have hy2 := ahead_total (hk y hym) hy
      rw [hl] at hx h2
      rcases List.mem_cons.1 hx with rfl | hx
      · exact hy2
      · exact ahead_trans hy2 ((List.pairwise_cons.1 h2).1 x hx)
  refine List.pairwise_append.2 ⟨h1, List.pairwise_cons.2 ⟨hd, h2⟩, fun a ha b hb => ?_⟩
  rcases List.mem_cons.1 hb with rfl | hb
  · exact ht a ha
  · exact h3 a ha b hb
theorem set_up {l : List Kp} (h : Up l) {i : Nat} {k k' : Kp} (hi : l[i]? = some k) (e : k'.h = k.h) : Up (l.set i k') := by
  obtain ⟨li, ei⟩ := List.getElem?_eq_some_iff.1 hi
  refine List.pairwise_iff_getElem.2 fun a b ha hb hab => ?_
  rw [List.length_set] at ha hb
  have h' := List.pairwise_iff_getElem.1 h a b ha hb hab
  rw [List.getElem_set, List.getElem_set]
  split
  · rename_i e1
    subst e1
    rw [if_neg (by omega), e, ← ei]; exact h'
  · split
    · rename_i e1
      subst e1
      rw [e, ← ei]; exact h'
    · exact h'
/-- What a record that is right says. -/
structure RcOk (r : Rc) : Prop where
  kind : 1 ≤ r.kind ∧ r.kind ≤ 8
  place : 0 ≤ r.place ∧ r.place < 4
  try_ : 0 ≤ r.try_ ∧ r.try_ ≤ 9999
  n : 0 ≤ r.n ∧ r.n ≤ 1000000
  head : r.kind ≠ 8 → hdCheck r.h = 0
  tick : r.kind = 8 → r.h = Hd.zero
  sym : r.kind = 2 → codeCheck r.h.bytes r.h.block r.s.id r.s.data.length = 0
  cargo : (r.kind = 1 ∨ r.kind = 3) → (r.cargo.length : Int) = r.h.bytes
theorem recCheck_ok {r : Rc} (h : recCheck r = 0) : RcOk r := by
  unfold recCheck at h
  split at h
  · cases h
  split at h
  · cases h
  split at h
  · cases h
  split at h
  · rename_i h1; exact absurd h h1.2
  rename_i h1 h2 h3 h4
  refine ⟨by omega, by omega, by omega, by omega, fun e => ?_, fun e => ?_, fun e => ?_, fun e => ?_⟩
  · have : usH r.kind = true := by simp [usH, e]
    simp only [this, true_and, ne_eq, Decidable.not_not] at h4; exact h4
  · have : usH r.kind = false := by simp [usH, e]
    simp only [this, true_and, not_or, ne_eq, Decidable.not_not] at h2; exact h2.2.2.2.1
  · have : usS r.kind = true := by simp [usS, e]
    rw [if_pos this] at h; exact h
  · have h5 : usS r.kind = false := by rcases e with e | e <;> simp [usS, e]
    have h6 : usC r.kind = true := by rcases e with e | e <;> simp [usC, e]
    rw [if_neg (by simp [h5])] at h
    split at h
    · cases h
    · rename_i h7
      simp only [h6, true_and, ne_eq, Decidable.not_not] at h7; exact h7
theorem fresh_ok {h : Hd} {me time : Int} (hh : hdCheck h = 0) (ht : time < h.till) (hf : h.frm ≠ me) : KpOk (Kp.fresh h) me time := by
  refine ⟨hh, ht, by simp [Kp.fresh, hf], by simp [Kp.fresh], ?_, ?_, ?_, ?_, ?_, ?_, ?_, ?_, ?_, ?_, ?_, ?_, ?_, ?_, ?_⟩ <;> simp [Kp.fresh]
/-- What a record makes of a bundle is a bundle, of the same head. -/
theorem elemF_ok {me time : Int} {k k' : Kp} {r : Rc} (hk : KpOk k me time) (hr : RcOk r) (hh : k.h = r.h) (e : elemF me k r = (k', 0)) : KpOk k' me time ∧ k'.h = k.h := by
  unfold elemF at e
  split at e
  · rename_i h2
    unfold keepsF at e
    repeat' split at e
    all_goals try (simp only [Prod.mk.injEq] at e; exact absurd e.2 (by decide))
    rename_i a1 a2 a3 a4
    simp only [Prod.mk.injEq, and_true] at e
    subst e
    simp only [List.any_eq_true, decide_eq_true_eq, not_exists, not_and] at a3
    refine ⟨⟨hk.head, hk.till, hk.own, hk.cargo, hk.size, fun ho => absurd ho a1, ?_, fun s hs => ?_, ?_, hk.shares, hk.giving, hk.towards, hk.try_, hk.none_, hk.some_, hk.took, hk.tooks, hk.deliv, fun hd => absurd hd a2⟩, rfl⟩
    · have := hk.many; simp only [List.length_append, List.length_singleton]; omega
    · rcases List.mem_append.1 hs with hs | hs
      · exact hk.syms s hs
      · obtain rfl := List.mem_singleton.1 hs
        have := hr.sym h2
        rw [← hh] at this; exact this
    · refine List.pairwise_append.2 ⟨hk.apart, List.pairwise_singleton _ _, fun a ha b hb => ?_⟩
      obtain rfl := List.mem_singleton.1 hb
      exact a3 a ha
  split at e
  · rename_i h2 h3
    unfold deliverF at e
    repeat' split at e
    all_goals try (simp only [Prod.mk.injEq] at e; exact absurd e.2 (by first | decide | assumption))
    rename_i a1 a2 a3 a4
    simp only [Prod.mk.injEq, and_true] at e
    subst e
    simp only [ne_eq, Decidable.not_not, not_or, Bool.not_eq_true] at a1 a2
    refine ⟨⟨hk.head, hk.till, hk.own, hk.cargo, hk.size, fun _ => rfl, ⟨by simp [Kp.over], hk.many.2⟩, by simp [Kp.over], by simp [Kp.over], by simp [Kp.over], by simp [Kp.over], by simp [Kp.over], hk.try_, by simp [Kp.over], by simp [Kp.over], hk.took, hk.tooks, fun _ => ⟨a1, a2.2⟩, fun _ => by simp [Kp.over]⟩, rfl⟩
  split at e
  · unfold purgeF at e
    split at e
    · simp only [Prod.mk.injEq] at e; exact absurd e.2 (by decide)
    rename_i a2
    simp only [Prod.mk.injEq, and_true] at e
    subst e
    simp only [not_or, Bool.not_eq_true] at a2
    exact ⟨⟨hk.head, hk.till, hk.own, hk.cargo, hk.size, fun _ => rfl, ⟨by simp [Kp.over], hk.many.2⟩, by simp [Kp.over], by simp [Kp.over], by simp [Kp.over], by simp [Kp.over], by simp [Kp.over], hk.try_, by simp [Kp.over], by simp [Kp.over], hk.took, hk.tooks, fun hd => by simp [Kp.over, a2.1] at hd, fun _ => by simp [Kp.over]⟩, rfl⟩
  rename_i h2 h3 h7
  unfold shareF at e
  split at e
  · simp only [Prod.mk.injEq] at e; exact absurd e.2 (by decide)
  rename_i a2
  split at e
  · unfold giveF at e
    repeat' split at e
    all_goals try (simp only [Prod.mk.injEq] at e; exact absurd e.2 (by decide))
    rename_i a3 a4 a5 a6
    simp only [Prod.mk.injEq, and_true] at e
    subst e
    have h1 := hk.shares
    have h4 := hk.try_
    have h5 := hr.try_
    have h6 := hr.place
    have h8 : k.shares / 2 * 2 ≤ k.shares := Int.ediv_mul_le _ (by decide)
    exact ⟨⟨hk.head, hk.till, hk.own, hk.cargo, hk.size, hk.nosym, hk.many, hk.syms, hk.apart, by simp only []; omega, by simp only []; omega, by simp only []; omega, by simp only []; omega, by simp only []; omega, by simp only []; intro _; exact ⟨a4, by omega⟩, hk.took, hk.tooks, hk.deliv, fun hd => absurd hd a2⟩, rfl⟩
  split at e
  · unfold givenF at e
    split at e
    · simp only [Prod.mk.injEq] at e; exact absurd e.2 (by decide)
    simp only [Prod.mk.injEq, and_true] at e
    subst e
    exact ⟨⟨hk.head, hk.till, hk.own, hk.cargo, hk.size, hk.nosym, hk.many, hk.syms, hk.apart, hk.shares, by simp, by simp, hk.try_, by simp, by simp, hk.took, hk.tooks, hk.deliv, fun hd => absurd hd a2⟩, rfl⟩
  · unfold takeF at e
    repeat' split at e
    all_goals try (simp only [Prod.mk.injEq] at e; exact absurd e.2 (by decide))
    rename_i a3 a4 a5 a6 a7
    simp only [Prod.mk.injEq, and_true] at e
    subst e
    simp only [List.any_eq_true, decide_eq_true_eq, not_exists, not_and] at a6
    have h1 := hk.shares
    have h5 := hr.try_
    have h6 := hr.place
    have h8 := hk.many
    refine ⟨⟨hk.head, hk.till, hk.own, hk.cargo, hk.size, hk.nosym, ?_, hk.syms, hk.apart, by simp only []; omega, hk.giving, hk.towards, hk.try_, hk.none_, hk.some_, fun t ht => ?_, ?_, hk.deliv, fun hd => absurd hd a2⟩, rfl⟩
    · simp only [List.length_append, List.length_singleton]; omega
    · rcases List.mem_append.1 ht with ht | ht
      · exact hk.took t ht
      · obtain rfl := List.mem_singleton.1 ht
        simp only []; omega
    · refine List.pairwise_append.2 ⟨hk.tooks, List.pairwise_singleton _ _, fun a ha b hb => ?_⟩
      obtain rfl := List.mem_singleton.1 hb
      exact a6 a ha
end Go.Proofs.Ytojoodmnmhcojaa
namespace Go.Proofs.Ytojoodmnmhcojaa
open Go.RowKit
attribute [local irreducible] wpList

/-- A place in hand, each bundle in blocks of its own. -/
structure PlA (w : World) (base pb : Nat) (p : Pc) (A : Option Addr) (c : Nat) (lo : Nat → Nat) : Prop where
  blk : w.heap[pb]? = some (.cells #[.int .i64 p.me, .slice A p.keep.length c, .int .i64 p.time, .int .i64 p.seq] 25 (0, 0))
  low : pb < base
  all : AllM w base (.slice A p.keep.length c) p.keep lo
theorem PlA.plM {w : World} {base pb : Nat} {p : Pc} {A : Option Addr} {c : Nat} {lo : Nat → Nat} (h : PlA w base pb p A c lo) : PlM w base pb p A c := ⟨h.blk, h.low, h.all.toOwn⟩
theorem PlA.fr {w w' : World} {base pb : Nat} {p : Pc} {A : Option Addr} {c : Nat} {lo : Nat → Nat} (h : PlA w base pb p A c lo) (k : Fr w w') : PlA w' base pb p A c lo := ⟨blk_go h.blk k, h.low, h.all.chg (S := fun _ => False) k.chg fun _ _ _ e => e⟩
/-- What keep.bundle may change. -/
def BunS (pb : Nat) (v : Value) (b : Nat) : Prop := b = pb ∨ v.ownBlock = some b
/-- What keep.bundle leaves. -/
def BunPost (w : World) (base pb : Nat) (p : Pc) (A : Option Addr) (c : Nat) (h : Hd) (e : Ending) (w' : World) : Prop :=
  (e = .returned (.tuple #[.pointer none, .int .i64 (bundleF p h).2]) ∧ (bundleF p h).2 ≠ 0 ∧ Chg (BunS pb (.slice A p.keep.length c)) w w' ∧ ∃ A c, PlM w' base pb p A c) ∨
  ∃ (l : List Kp) (i : Nat) (x : Kp) (g cap : Nat) (Ac : Option Addr) (nc cc : Nat) (vS vT : Value) (T : Nat → Prop), bundleF p h = ((l, i, x), 0) ∧ e = .returned (.tuple #[.pointer (some ⟨g, i * 16, none⟩), .int .i64 0]) ∧ Chg (BunS pb (.slice A p.keep.length c)) w w' ∧
    w'.heap[pb]? = some (.cells #[.int .i64 p.me, .slice (some ⟨g, 0, none⟩) l.length cap, .int .i64 p.time, .int .i64 p.seq] 25 (0, 0)) ∧ Foc0 T w' base g cap l i x Ac nc cc vS vT
set_option maxRecDepth 100000 in
set_option maxHeartbeats 16000000 in
theorem bundle_any (w : World) (base pb : Nat) (p : Pc) (A : Option Addr) (c : Nat) (lo : Nat → Nat) (hp : PlA w base pb p A c lo) (h12 : p.keep.length ≤ 12) (h : Hd) (hwh : h.wf) (hb : base ≤ w.heap.size) :
    Calls Try.prog 31 #[.pointer (some ⟨pb, 0, none⟩), .agg #[.int .i64 h.frm, .int .i64 h.seq, .int .i64 h.to, .int .i64 h.till, .int .i64 h.bytes, .int .i64 h.block]] w (BunPost w base pb p A c h) := by
  have E := Lib.hid (bundleF.eq_1 p h)
  have hbb := hp.blk
  have hpb := hp.low
  have H := Lib.hid hp
  have hpl := (Array.getElem?_eq_some_iff.1 hbb).1
  have fin : ∀ x k W, Fr w W → k ≠ 0 → bundleF p h = (x, k) → BunPost w base pb p A c h (.returned (.tuple #[.pointer none, .int .i64 k])) W := fun x k W hf hk e => by
    refine .inl ⟨by rw [e], by rw [e]; exact hk, hf.chg, _, _, (H.out.fr hf).plM⟩
  have FIN := Lib.hid fin
  clear fin
  go_enter Try.func31, Try.ntmps31
  go_upto_region 1 with fail
  obtain ⟨W1, hW1⟩ : ∃ W1, W1 = w.alloc (.cells #[.int .i64 h.frm, .int .i64 h.seq, .int .i64 h.to, .int .i64 h.till, .int .i64 h.bytes, .int .i64 h.block] 34) := ⟨_, rfl⟩
  obtain ⟨q, hq⟩ : ∃ q, q = w.heap.size := ⟨_, rfl⟩
  have HQ : Hid (W1.heap[q]? = some (.cells #[.int .i64 h.frm, .int .i64 h.seq, .int .i64 h.to, .int .i64 h.till, .int .i64 h.bytes, .int .i64 h.block] 34 (0, 0))) := by rw [hW1]; exact heap_new hq
  have HF1 : Hid (Fr w W1) := by rw [hW1]; exact frAlloc _ _
  rw [← hW1, ← hq]
  have HQW : Hid (q = w.heap.size) := hq
  clear hW1 hq hp hbb
  have hbx := blk_go H.out.blk HF1.out
  have hqx := HQ.out
  (obtain ⟨bp0, bp1, bp2, bp3⟩ := box4_ hbx)
  (obtain ⟨bx0, bx1, bx2, bx3, bx4, bx5⟩ := box6_ hqx)
  clear hbx hqx
  by_cases h1 : h.till ≤ p.time
  case pos =>
    have E1 := Lib.hid (E.out.trans (if_pos h1))
    have t1 : decide (h.till ≤ p.time) = true := by simp [h1]
    clear E h1
    go_quiet (fail)
    go_wp2_with fail
    go_ret2
    exact FIN.out _ _ _ (by (repeat' (first | exact Below.refl _ _ | refine below_drewN ?_ _ | refine Below.drew ?_ | refine frA ?_ _ | refine Fr.trans ?_ HF1.out))) (by decide) E1.out
  case neg =>
  have E1 := Lib.hid (E.out.trans (if_neg h1))
  have t1 : decide (h.till ≤ p.time) = false := by simp; omega
  clear E h1
  go_quiet (fail)
  obtain ⟨W2, hW2⟩ : ∃ W2, W2 = W1.drewN nq := ⟨_, rfl⟩
  have HF12 : Hid (Fr W1 W2) := by rw [hW2]; exact below_drewN (Below.refl _ _) _
  rw [← hW2]
  have HF2' : Hid (Fr w W2) := HF1.out.trans HF12.out
  clear hW2 t1 bp0 bp1 bp2 bp3 bx0 bx1 bx2 bx3 bx4 bx5
  obtain ⟨n, hn⟩ : ∃ n, n = p.keep.length := ⟨_, rfl⟩
  have hbx := (H.out.fr HF2'.out).blk
  rw [← hn] at hbx
  have hqx := blk_go HQ.out HF12.out
  (obtain ⟨bp0, bp1, bp2, bp3⟩ := box4_ hbx)
  (obtain ⟨bx0, bx1, bx2, bx3, bx4, bx5⟩ := box6_ hqx)
  have hSC : Hid (∀ w', Fr W2 w' → w'.cell? ⟨pb, 0, none⟩ = some (.int .i64 p.me) ∧ w'.cell? ⟨pb, 1, none⟩ = some (.slice A n c) ∧ w'.cell? ⟨pb, 2, none⟩ = some (.int .i64 p.time) ∧ w'.cell? ⟨pb, 3, none⟩ = some (.int .i64 p.seq) ∧ w'.cell? ⟨q, 0, none⟩ = some (.int .i64 h.frm) ∧ w'.cell? ⟨q, 1, none⟩ = some (.int .i64 h.seq)) := fun w' hf => ⟨(hf.cell (World.block_lt_of_cell? W2 _ bp0)).trans bp0, (hf.cell (World.block_lt_of_cell? W2 _ bp1)).trans bp1, (hf.cell (World.block_lt_of_cell? W2 _ bp2)).trans bp2, (hf.cell (World.block_lt_of_cell? W2 _ bp3)).trans bp3, (hf.cell (World.block_lt_of_cell? W2 _ bx0)).trans bx0, (hf.cell (World.block_lt_of_cell? W2 _ bx1)).trans bx1⟩
  obtain ⟨kf, hkf⟩ : ∃ kf, kf = findF p.keep h.frm h.seq := ⟨_, rfl⟩
  have FD : Hid (∀ W, Fr w W → Calls Try.prog 9 #[.agg #[.int .i64 p.me, .slice A n c, .int .i64 p.time, .int .i64 p.seq], .int .i64 h.frm, .int .i64 h.seq] W fun e w' => e = .returned (.int .i64 kf) ∧ Fr W w') := fun W hf => by
    rw [hkf]
    obtain ⟨A9, c9, e9, ⟨hc9, hm9⟩, hsl⟩ := (((H.out.fr hf).plM.own).ofHi sKp).slC sKp (by decide)
    injection e9 with e9 _ e10
    subst e9 e10
    rw [hn]
    exact keepFind_any W p.me p.time p.seq A _ c p.keep h.frm h.seq hsl (by unfold maxLen; omega)
  have HN := Lib.hid hn
  have HKF := Lib.hid hkf
  clear hbx hqx hn hkf bp0 bp1 bp2 bp3 bx0 bx1 bx2 bx3 bx4 bx5
  go_upto_region 3 with fail
  refine held_begin (n := 9) (bs := #[false, false, false, false, false, false, false, false, false]) rfl rfl (by kernel_rfl) (S := fun w' => w'.cell? ⟨pb, 0, none⟩ = some (.int .i64 p.me) ∧ w'.cell? ⟨pb, 1, none⟩ = some (.slice A n c) ∧ w'.cell? ⟨pb, 2, none⟩ = some (.int .i64 p.time) ∧ w'.cell? ⟨pb, 3, none⟩ = some (.int .i64 p.seq) ∧ w'.cell? ⟨q, 0, none⟩ = some (.int .i64 h.frm) ∧ w'.cell? ⟨q, 1, none⟩ = some (.int .i64 h.seq)) (hSC.out _ (Below.refl _ _).drew) (fun hHeld => ?_)
  ((first | (refine held_skip (i := 0) (a' := ?hA42) (l' := ?hL42) rfl (by kernel_rfl) (by kernel_rfl) (by kernel_rfl) (fun _ _ _ h => h) (by rfl) (by assumption) ?ha42 ?hl42 ?hh42; (case ha42 => (simp only [Act.put, hq1, hq2, hq3, Option.isNone, Bool.not_true, Bool.not_false]; (try with_reducible rfl))); (case hl42 => (simp only [Act.put, hq1, hq2, hq3, Option.isNone, Bool.not_true, Bool.not_false]; (try with_reducible rfl)))) | (refine held_take (i := 0) (v := ?hV42) (a' := ?hA42) (l' := ?hL42) rfl (by kernel_rfl) (by kernel_rfl) (by kernel_rfl) (fun _ _ _ h => h) (by rfl) ?hv42 (by assumption) ?ha42 ?hl42 ?hh42; (case hv42 => (intro w hSw; (try dsimp only at hSw); go_simp; (try simp only [run_eql_slice_nil _ 36 _ _ _ _ Try.underlying36, Result.andThen_ok]); (try with_reducible rfl))); (case ha42 => (simp only [Act.put, hq1, hq2, hq3, Option.isNone, Bool.not_true, Bool.not_false]; (try with_reducible rfl))); (case hl42 => (simp only [Act.put, hq1, hq2, hq3, Option.isNone, Bool.not_true, Bool.not_false]; (try with_reducible rfl))))); (first | (refine held_skip (i := 1) (a' := ?hA43) (l' := ?hL43) rfl (by kernel_rfl) (by kernel_rfl) (by kernel_rfl) (fun _ _ _ h => h) (by rfl) (by assumption) ?ha43 ?hl43 ?hh43; (case ha43 => (simp only [Act.put, hq1, hq2, hq3, Option.isNone, Bool.not_true, Bool.not_false]; (try with_reducible rfl))); (case hl43 => (simp only [Act.put, hq1, hq2, hq3, Option.isNone, Bool.not_true, Bool.not_false]; (try with_reducible rfl)))) | (refine held_take (i := 1) (v := ?hV43) (a' := ?hA43) (l' := ?hL43) rfl (by kernel_rfl) (by kernel_rfl) (by kernel_rfl) (fun _ _ _ h => h) (by rfl) ?hv43 (by assumption) ?ha43 ?hl43 ?hh43; (case hv43 => (intro w hSw; (try dsimp only at hSw); go_simp; (try simp only [run_eql_slice_nil _ 36 _ _ _ _ Try.underlying36, Result.andThen_ok]); (try with_reducible rfl))); (case ha43 => (simp only [Act.put, hq1, hq2, hq3, Option.isNone, Bool.not_true, Bool.not_false]; (try with_reducible rfl))); (case hl43 => (simp only [Act.put, hq1, hq2, hq3, Option.isNone, Bool.not_true, Bool.not_false]; (try with_reducible rfl))))); (first | (refine held_skip (i := 2) (a' := ?hA44) (l' := ?hL44) rfl (by kernel_rfl) (by kernel_rfl) (by kernel_rfl) (fun _ _ _ h => h) (by rfl) (by assumption) ?ha44 ?hl44 ?hh44; (case ha44 => (simp only [Act.put, hq1, hq2, hq3, Option.isNone, Bool.not_true, Bool.not_false]; (try with_reducible rfl))); (case hl44 => (simp only [Act.put, hq1, hq2, hq3, Option.isNone, Bool.not_true, Bool.not_false]; (try with_reducible rfl)))) | (refine held_take (i := 2) (v := ?hV44) (a' := ?hA44) (l' := ?hL44) rfl (by kernel_rfl) (by kernel_rfl) (by kernel_rfl) (fun _ _ _ h => h) (by rfl) ?hv44 (by assumption) ?ha44 ?hl44 ?hh44; (case hv44 => (intro w hSw; (try dsimp only at hSw); go_simp; (try simp only [run_eql_slice_nil _ 36 _ _ _ _ Try.underlying36, Result.andThen_ok]); (try with_reducible rfl))); (case ha44 => (simp only [Act.put, hq1, hq2, hq3, Option.isNone, Bool.not_true, Bool.not_false]; (try with_reducible rfl))); (case hl44 => (simp only [Act.put, hq1, hq2, hq3, Option.isNone, Bool.not_true, Bool.not_false]; (try with_reducible rfl))))); (first | (refine held_skip (i := 3) (a' := ?hA45) (l' := ?hL45) rfl (by kernel_rfl) (by kernel_rfl) (by kernel_rfl) (fun _ _ _ h => h) (by rfl) (by assumption) ?ha45 ?hl45 ?hh45; (case ha45 => (simp only [Act.put, hq1, hq2, hq3, Option.isNone, Bool.not_true, Bool.not_false]; (try with_reducible rfl))); (case hl45 => (simp only [Act.put, hq1, hq2, hq3, Option.isNone, Bool.not_true, Bool.not_false]; (try with_reducible rfl)))) | (refine held_take (i := 3) (v := ?hV45) (a' := ?hA45) (l' := ?hL45) rfl (by kernel_rfl) (by kernel_rfl) (by kernel_rfl) (fun _ _ _ h => h) (by rfl) ?hv45 (by assumption) ?ha45 ?hl45 ?hh45; (case hv45 => (intro w hSw; (try dsimp only at hSw); go_simp; (try simp only [run_eql_slice_nil _ 36 _ _ _ _ Try.underlying36, Result.andThen_ok]); (try with_reducible rfl))); (case ha45 => (simp only [Act.put, hq1, hq2, hq3, Option.isNone, Bool.not_true, Bool.not_false]; (try with_reducible rfl))); (case hl45 => (simp only [Act.put, hq1, hq2, hq3, Option.isNone, Bool.not_true, Bool.not_false]; (try with_reducible rfl))))); (first | (refine held_skip (i := 4) (a' := ?hA46) (l' := ?hL46) rfl (by kernel_rfl) (by kernel_rfl) (by kernel_rfl) (fun _ _ _ h => h) (by rfl) (by assumption) ?ha46 ?hl46 ?hh46; (case ha46 => (simp only [Act.put, hq1, hq2, hq3, Option.isNone, Bool.not_true, Bool.not_false]; (try with_reducible rfl))); (case hl46 => (simp only [Act.put, hq1, hq2, hq3, Option.isNone, Bool.not_true, Bool.not_false]; (try with_reducible rfl)))) | (refine held_take (i := 4) (v := ?hV46) (a' := ?hA46) (l' := ?hL46) rfl (by kernel_rfl) (by kernel_rfl) (by kernel_rfl) (fun _ _ _ h => h) (by rfl) ?hv46 (by assumption) ?ha46 ?hl46 ?hh46; (case hv46 => (intro w hSw; (try dsimp only at hSw); go_simp; (try simp only [run_eql_slice_nil _ 36 _ _ _ _ Try.underlying36, Result.andThen_ok]); (try with_reducible rfl))); (case ha46 => (simp only [Act.put, hq1, hq2, hq3, Option.isNone, Bool.not_true, Bool.not_false]; (try with_reducible rfl))); (case hl46 => (simp only [Act.put, hq1, hq2, hq3, Option.isNone, Bool.not_true, Bool.not_false]; (try with_reducible rfl))))); (first | (refine held_skip (i := 5) (a' := ?hA47) (l' := ?hL47) rfl (by kernel_rfl) (by kernel_rfl) (by kernel_rfl) (fun _ _ _ h => h) (by rfl) (by assumption) ?ha47 ?hl47 ?hh47; (case ha47 => (simp only [Act.put, hq1, hq2, hq3, Option.isNone, Bool.not_true, Bool.not_false]; (try with_reducible rfl))); (case hl47 => (simp only [Act.put, hq1, hq2, hq3, Option.isNone, Bool.not_true, Bool.not_false]; (try with_reducible rfl)))) | (refine held_take (i := 5) (v := ?hV47) (a' := ?hA47) (l' := ?hL47) rfl (by kernel_rfl) (by kernel_rfl) (by kernel_rfl) (fun _ _ _ h => h) (by rfl) ?hv47 (by assumption) ?ha47 ?hl47 ?hh47; (case hv47 => (intro w hSw; (try dsimp only at hSw); go_simp; (try simp only [run_eql_slice_nil _ 36 _ _ _ _ Try.underlying36, Result.andThen_ok]); (try with_reducible rfl))); (case ha47 => (simp only [Act.put, hq1, hq2, hq3, Option.isNone, Bool.not_true, Bool.not_false]; (try with_reducible rfl))); (case hl47 => (simp only [Act.put, hq1, hq2, hq3, Option.isNone, Bool.not_true, Bool.not_false]; (try with_reducible rfl))))); (first | (refine held_skip (i := 6) (a' := ?hA48) (l' := ?hL48) rfl (by kernel_rfl) (by kernel_rfl) (by kernel_rfl) (fun _ _ _ h => h) (by rfl) (by assumption) ?ha48 ?hl48 ?hh48; (case ha48 => (simp only [Act.put, hq1, hq2, hq3, Option.isNone, Bool.not_true, Bool.not_false]; (try with_reducible rfl))); (case hl48 => (simp only [Act.put, hq1, hq2, hq3, Option.isNone, Bool.not_true, Bool.not_false]; (try with_reducible rfl)))) | (refine held_take (i := 6) (v := ?hV48) (a' := ?hA48) (l' := ?hL48) rfl (by kernel_rfl) (by kernel_rfl) (by kernel_rfl) (fun _ _ _ h => h) (by rfl) ?hv48 (by assumption) ?ha48 ?hl48 ?hh48; (case hv48 => (intro w hSw; (try dsimp only at hSw); go_simp; (try simp only [run_eql_slice_nil _ 36 _ _ _ _ Try.underlying36, Result.andThen_ok]); (try with_reducible rfl))); (case ha48 => (simp only [Act.put, hq1, hq2, hq3, Option.isNone, Bool.not_true, Bool.not_false]; (try with_reducible rfl))); (case hl48 => (simp only [Act.put, hq1, hq2, hq3, Option.isNone, Bool.not_true, Bool.not_false]; (try with_reducible rfl))))))
  refine held_one (i := 7) rfl (by kernel_rfl) (fun K hK => ?_)
  go_simp
  go_at_call 9
  (with_reducible refine (FD.out _ (HF2'.out.trans (Below.refl _ _).drew)).mono ?_)
  rintro e w5 ⟨rfl, hf5⟩
  have HF25 : Hid (Fr W2 w5) := Fr.trans (Below.refl _ _).drew hf5
  (refine held_back hK (a' := ?hA149) (l' := ?hL149) ?ha149 ?hl149 (hSC.out _ HF25.out) (fun hHeld => ?hh149); (case ha149 => first | with_reducible rfl | (simp only [Act.put, hq1, hq2, hq3, Option.isNone, Bool.not_true, Bool.not_false]; (try with_reducible rfl))); (case hl149 => (simp only [Act.put, hq1, hq2, hq3, Option.isNone, Bool.not_true, Bool.not_false]; (try with_reducible rfl))); clear hK K)
  ((first | (refine held_skip (i := 8) (a' := ?hA49) (l' := ?hL49) rfl (by kernel_rfl) (by kernel_rfl) (by kernel_rfl) (fun _ _ _ h => h) (by rfl) (by assumption) ?ha49 ?hl49 ?hh49; (case ha49 => (simp only [Act.put, hq1, hq2, hq3, Option.isNone, Bool.not_true, Bool.not_false]; (try with_reducible rfl))); (case hl49 => (simp only [Act.put, hq1, hq2, hq3, Option.isNone, Bool.not_true, Bool.not_false]; (try with_reducible rfl)))) | (refine held_take (i := 8) (v := ?hV49) (a' := ?hA49) (l' := ?hL49) rfl (by kernel_rfl) (by kernel_rfl) (by kernel_rfl) (fun _ _ _ h => h) (by rfl) ?hv49 (by assumption) ?ha49 ?hl49 ?hh49; (case hv49 => (intro w hSw; (try dsimp only at hSw); go_simp; (try simp only [run_eql_slice_nil _ 36 _ _ _ _ Try.underlying36, Result.andThen_ok]); (try with_reducible rfl))); (case ha49 => (simp only [Act.put, hq1, hq2, hq3, Option.isNone, Bool.not_true, Bool.not_false]; (try with_reducible rfl))); (case hl49 => (simp only [Act.put, hq1, hq2, hq3, Option.isNone, Bool.not_true, Bool.not_false]; (try with_reducible rfl))))))
  refine wpAnyH_done (by kernel_rfl) ?_ _
  have HQ2 := Lib.hid (blk_go HQ.out (HF12.out.trans HF25.out))
  have HF2 : Hid (Fr w w5) := HF2'.out.trans HF25.out
  obtain ⟨W2, rfl⟩ : ∃ W2, W2 = w5 := ⟨_, rfl⟩
  clear hf5 hSC hHeld FD HF25 HF2' HF12 HF1
  have hbx := (H.out.fr HF2.out).blk
  rw [← HN.out] at hbx
  have hqx := HQ2.out
  (obtain ⟨bp0, bp1, bp2, bp3⟩ := box4_ hbx)
  (obtain ⟨bx0, bx1, bx2, bx3, bx4, bx5⟩ := box6_ hqx)
  clear hbx hqx
  obtain ⟨ft, hft⟩ : ∃ ft, ft = findAt h.frm h.seq p.keep := ⟨_, rfl⟩
  have HFT := Lib.hid hft
  rw [← hft] at E1
  have hkf2 := HKF.out
  unfold findF at hkf2
  rw [← hft] at hkf2
  clear hft
  cases ft with
  | some i =>
    simp only [] at hkf2
    subst hkf2
    obtain ⟨x, hx, hxe⟩ := findAt_some HFT.out.symm
    have hin : i < n := by rw [HN.out]; exact (List.getElem?_eq_some_iff.1 hx).1
    obtain ⟨g, cap, Ac, nc, cc, vS, vT, T, e1, hF, hav, hne, hnew⟩ := (H.out.fr HF2.out).all.foc hx |> fun _ => (H.out.fr HF2.out).all.foc2 hx
    injection e1 with e1 e2 e3
    subst e1 e3
    have HFO : Hid (Foc0 T W2 base g c p.keep i x Ac nc cc vS vT) := ⟨hF, hav, hne, hnew⟩
    have hgx : (p.keep[i]?).getD (Kp.fresh h) = x := by rw [hx]; rfl
    dsimp only at E1
    rw [hgx] at E1
    obtain ⟨m0, m1, m2, m3, m4, m5, _⟩ := hF.cells
    clear hav hne hnew hF e2 hgx hx hxe
    have hge : (0 : Int) ≤ (i : Int) := by omega
    have hin2 : (i : Int) < (n : Int) := by omega
    have hwi : IntKind.i64.wrap (i : Int) = (i : Int) := by have := HN.out; rw [IntKind.wrap_i64]; omega
    have hS5 : Hid (∀ w', Fr W2 w' → w'.cell? ⟨pb, 1, none⟩ = some (.slice (some ⟨g, 0, none⟩) n c) ∧ w'.cell? ⟨g, i * 16, none⟩ = some (.int .i64 x.h.frm) ∧ w'.cell? ⟨g, i * 16 + 1, none⟩ = some (.int .i64 x.h.seq) ∧ w'.cell? ⟨g, i * 16 + 2, none⟩ = some (.int .i64 x.h.to) ∧ w'.cell? ⟨g, i * 16 + 3, none⟩ = some (.int .i64 x.h.till) ∧ w'.cell? ⟨g, i * 16 + 4, none⟩ = some (.int .i64 x.h.bytes) ∧ w'.cell? ⟨g, i * 16 + 5, none⟩ = some (.int .i64 x.h.block) ∧ w'.cell? ⟨q, 0, none⟩ = some (.int .i64 h.frm) ∧ w'.cell? ⟨q, 1, none⟩ = some (.int .i64 h.seq) ∧ w'.cell? ⟨q, 2, none⟩ = some (.int .i64 h.to) ∧ w'.cell? ⟨q, 3, none⟩ = some (.int .i64 h.till) ∧ w'.cell? ⟨q, 4, none⟩ = some (.int .i64 h.bytes) ∧ w'.cell? ⟨q, 5, none⟩ = some (.int .i64 h.block)) := fun w' hf => ⟨(hf.cell (World.block_lt_of_cell? W2 _ bp1)).trans bp1, (hf.cell (World.block_lt_of_cell? W2 _ m0)).trans m0, (hf.cell (World.block_lt_of_cell? W2 _ m1)).trans m1, (hf.cell (World.block_lt_of_cell? W2 _ m2)).trans m2, (hf.cell (World.block_lt_of_cell? W2 _ m3)).trans m3, (hf.cell (World.block_lt_of_cell? W2 _ m4)).trans m4, (hf.cell (World.block_lt_of_cell? W2 _ m5)).trans m5, (hf.cell (World.block_lt_of_cell? W2 _ bx0)).trans bx0, (hf.cell (World.block_lt_of_cell? W2 _ bx1)).trans bx1, (hf.cell (World.block_lt_of_cell? W2 _ bx2)).trans bx2, (hf.cell (World.block_lt_of_cell? W2 _ bx3)).trans bx3, (hf.cell (World.block_lt_of_cell? W2 _ bx4)).trans bx4, (hf.cell (World.block_lt_of_cell? W2 _ bx5)).trans bx5⟩
    by_cases h3 : x.h = h
    · have E2 := Lib.hid (E1.out.trans (if_neg (fun e => e h3)))
      have hq := fun (V : World) => eqHd x.h h V
      rw [decide_eq_true h3] at hq
      clear E1 h3
      go_upto_region 5 with fail
      refine held_begin (n := 10) (bs := #[false, false, false, false, false, false, false, false, false, false]) rfl rfl (by kernel_rfl) (S := fun w' => w'.cell? ⟨pb, 1, none⟩ = some (.slice (some ⟨g, 0, none⟩) n c) ∧ w'.cell? ⟨g, i * 16, none⟩ = some (.int .i64 x.h.frm) ∧ w'.cell? ⟨g, i * 16 + 1, none⟩ = some (.int .i64 x.h.seq) ∧ w'.cell? ⟨g, i * 16 + 2, none⟩ = some (.int .i64 x.h.to) ∧ w'.cell? ⟨g, i * 16 + 3, none⟩ = some (.int .i64 x.h.till) ∧ w'.cell? ⟨g, i * 16 + 4, none⟩ = some (.int .i64 x.h.bytes) ∧ w'.cell? ⟨g, i * 16 + 5, none⟩ = some (.int .i64 x.h.block) ∧ w'.cell? ⟨q, 0, none⟩ = some (.int .i64 h.frm) ∧ w'.cell? ⟨q, 1, none⟩ = some (.int .i64 h.seq) ∧ w'.cell? ⟨q, 2, none⟩ = some (.int .i64 h.to) ∧ w'.cell? ⟨q, 3, none⟩ = some (.int .i64 h.till) ∧ w'.cell? ⟨q, 4, none⟩ = some (.int .i64 h.bytes) ∧ w'.cell? ⟨q, 5, none⟩ = some (.int .i64 h.block)) (hS5.out _ (Below.refl _ _).drew) (fun hHeld => ?_)
      ((first | (refine held_skip (i := 0) (a' := ?hA50) (l' := ?hL50) rfl (by kernel_rfl) (by kernel_rfl) (by kernel_rfl) (fun _ _ _ h => h) (by rfl) (by assumption) ?ha50 ?hl50 ?hh50; (case ha50 => (simp only [Act.put, hq1, hq2, hq3, Option.isNone, Bool.not_true, Bool.not_false]; (try with_reducible rfl))); (case hl50 => (simp only [Act.put, hq1, hq2, hq3, Option.isNone, Bool.not_true, Bool.not_false]; (try with_reducible rfl)))) | (refine held_take (i := 0) (v := ?hV50) (a' := ?hA50) (l' := ?hL50) rfl (by kernel_rfl) (by kernel_rfl) (by kernel_rfl) (fun _ _ _ h => h) (by rfl) ?hv50 (by assumption) ?ha50 ?hl50 ?hh50; (case hv50 => (intro w hSw; (try dsimp only at hSw); go_simp; (try simp only [run_eql_slice_nil _ 36 _ _ _ _ Try.underlying36, Result.andThen_ok]); (try with_reducible rfl))); (case ha50 => (simp only [Act.put, hq1, hq2, hq3, Option.isNone, Bool.not_true, Bool.not_false]; (try with_reducible rfl))); (case hl50 => (simp only [Act.put, hq1, hq2, hq3, Option.isNone, Bool.not_true, Bool.not_false]; (try with_reducible rfl))))); (first | (refine held_skip (i := 1) (a' := ?hA51) (l' := ?hL51) rfl (by kernel_rfl) (by kernel_rfl) (by kernel_rfl) (fun _ _ _ h => h) (by rfl) (by assumption) ?ha51 ?hl51 ?hh51; (case ha51 => (simp only [Act.put, hq1, hq2, hq3, Option.isNone, Bool.not_true, Bool.not_false]; (try with_reducible rfl))); (case hl51 => (simp only [Act.put, hq1, hq2, hq3, Option.isNone, Bool.not_true, Bool.not_false]; (try with_reducible rfl)))) | (refine held_take (i := 1) (v := ?hV51) (a' := ?hA51) (l' := ?hL51) rfl (by kernel_rfl) (by kernel_rfl) (by kernel_rfl) (fun _ _ _ h => h) (by rfl) ?hv51 (by assumption) ?ha51 ?hl51 ?hh51; (case hv51 => (intro w hSw; (try dsimp only at hSw); go_simp; (try simp only [run_eql_slice_nil _ 36 _ _ _ _ Try.underlying36, Result.andThen_ok]); (try with_reducible rfl))); (case ha51 => (simp only [Act.put, hq1, hq2, hq3, Option.isNone, Bool.not_true, Bool.not_false]; (try with_reducible rfl))); (case hl51 => (simp only [Act.put, hq1, hq2, hq3, Option.isNone, Bool.not_true, Bool.not_false]; (try with_reducible rfl))))); (first | (refine held_skip (i := 2) (a' := ?hA52) (l' := ?hL52) rfl (by kernel_rfl) (by kernel_rfl) (by kernel_rfl) (fun _ _ _ h => h) (by rfl) (by assumption) ?ha52 ?hl52 ?hh52; (case ha52 => (simp only [Act.put, hq1, hq2, hq3, Option.isNone, Bool.not_true, Bool.not_false]; (try with_reducible rfl))); (case hl52 => (simp only [Act.put, hq1, hq2, hq3, Option.isNone, Bool.not_true, Bool.not_false]; (try with_reducible rfl)))) | (refine held_take (i := 2) (v := ?hV52) (a' := ?hA52) (l' := ?hL52) rfl (by kernel_rfl) (by kernel_rfl) (by kernel_rfl) (fun _ _ _ h => h) (by rfl) ?hv52 (by assumption) ?ha52 ?hl52 ?hh52; (case hv52 => (intro w hSw; (try dsimp only at hSw); go_simp; (try simp only [run_eql_slice_nil _ 36 _ _ _ _ Try.underlying36, Result.andThen_ok]); (try with_reducible rfl))); (case ha52 => (simp only [Act.put, hq1, hq2, hq3, Option.isNone, Bool.not_true, Bool.not_false]; (try with_reducible rfl))); (case hl52 => (simp only [Act.put, hq1, hq2, hq3, Option.isNone, Bool.not_true, Bool.not_false]; (try with_reducible rfl))))); (first | (refine held_skip (i := 3) (a' := ?hA53) (l' := ?hL53) rfl (by kernel_rfl) (by kernel_rfl) (by kernel_rfl) (fun _ _ _ h => h) (by rfl) (by assumption) ?ha53 ?hl53 ?hh53; (case ha53 => (simp only [Act.put, hq1, hq2, hq3, Option.isNone, Bool.not_true, Bool.not_false]; (try with_reducible rfl))); (case hl53 => (simp only [Act.put, hq1, hq2, hq3, Option.isNone, Bool.not_true, Bool.not_false]; (try with_reducible rfl)))) | (refine held_take (i := 3) (v := ?hV53) (a' := ?hA53) (l' := ?hL53) rfl (by kernel_rfl) (by kernel_rfl) (by kernel_rfl) (fun _ _ _ h => h) (by rfl) ?hv53 (by assumption) ?ha53 ?hl53 ?hh53; (case hv53 => (intro w hSw; (try dsimp only at hSw); go_simp; (try simp only [run_eql_slice_nil _ 36 _ _ _ _ Try.underlying36, Result.andThen_ok]); (try with_reducible rfl))); (case ha53 => (simp only [Act.put, hq1, hq2, hq3, Option.isNone, Bool.not_true, Bool.not_false]; (try with_reducible rfl))); (case hl53 => (simp only [Act.put, hq1, hq2, hq3, Option.isNone, Bool.not_true, Bool.not_false]; (try with_reducible rfl))))); (first | (refine held_skip (i := 4) (a' := ?hA54) (l' := ?hL54) rfl (by kernel_rfl) (by kernel_rfl) (by kernel_rfl) (fun _ _ _ h => h) (by rfl) (by assumption) ?ha54 ?hl54 ?hh54; (case ha54 => (simp only [Act.put, hq1, hq2, hq3, Option.isNone, Bool.not_true, Bool.not_false]; (try with_reducible rfl))); (case hl54 => (simp only [Act.put, hq1, hq2, hq3, Option.isNone, Bool.not_true, Bool.not_false]; (try with_reducible rfl)))) | (refine held_take (i := 4) (v := ?hV54) (a' := ?hA54) (l' := ?hL54) rfl (by kernel_rfl) (by kernel_rfl) (by kernel_rfl) (fun _ _ _ h => h) (by rfl) ?hv54 (by assumption) ?ha54 ?hl54 ?hh54; (case hv54 => (intro w hSw; (try dsimp only at hSw); go_simp; (try simp only [run_eql_slice_nil _ 36 _ _ _ _ Try.underlying36, Result.andThen_ok]); (try with_reducible rfl))); (case ha54 => (simp only [Act.put, hq1, hq2, hq3, Option.isNone, Bool.not_true, Bool.not_false]; (try with_reducible rfl))); (case hl54 => (simp only [Act.put, hq1, hq2, hq3, Option.isNone, Bool.not_true, Bool.not_false]; (try with_reducible rfl))))); (first | (refine held_skip (i := 5) (a' := ?hA55) (l' := ?hL55) rfl (by kernel_rfl) (by kernel_rfl) (by kernel_rfl) (fun _ _ _ h => h) (by rfl) (by assumption) ?ha55 ?hl55 ?hh55; (case ha55 => (simp only [Act.put, hq1, hq2, hq3, Option.isNone, Bool.not_true, Bool.not_false]; (try with_reducible rfl))); (case hl55 => (simp only [Act.put, hq1, hq2, hq3, Option.isNone, Bool.not_true, Bool.not_false]; (try with_reducible rfl)))) | (refine held_take (i := 5) (v := ?hV55) (a' := ?hA55) (l' := ?hL55) rfl (by kernel_rfl) (by kernel_rfl) (by kernel_rfl) (fun _ _ _ h => h) (by rfl) ?hv55 (by assumption) ?ha55 ?hl55 ?hh55; (case hv55 => (intro w hSw; (try dsimp only at hSw); go_simp; (try simp only [run_eql_slice_nil _ 36 _ _ _ _ Try.underlying36, Result.andThen_ok]); (try with_reducible rfl))); (case ha55 => (simp only [Act.put, hq1, hq2, hq3, Option.isNone, Bool.not_true, Bool.not_false]; (try with_reducible rfl))); (case hl55 => (simp only [Act.put, hq1, hq2, hq3, Option.isNone, Bool.not_true, Bool.not_false]; (try with_reducible rfl))))); (first | (refine held_skip (i := 6) (a' := ?hA56) (l' := ?hL56) rfl (by kernel_rfl) (by kernel_rfl) (by kernel_rfl) (fun _ _ _ h => h) (by rfl) (by assumption) ?ha56 ?hl56 ?hh56; (case ha56 => (simp only [Act.put, hq1, hq2, hq3, Option.isNone, Bool.not_true, Bool.not_false]; (try with_reducible rfl))); (case hl56 => (simp only [Act.put, hq1, hq2, hq3, Option.isNone, Bool.not_true, Bool.not_false]; (try with_reducible rfl)))) | (refine held_take (i := 6) (v := ?hV56) (a' := ?hA56) (l' := ?hL56) rfl (by kernel_rfl) (by kernel_rfl) (by kernel_rfl) (fun _ _ _ h => h) (by rfl) ?hv56 (by assumption) ?ha56 ?hl56 ?hh56; (case hv56 => (intro w hSw; (try dsimp only at hSw); go_simp; (try simp only [run_eql_slice_nil _ 36 _ _ _ _ Try.underlying36, Result.andThen_ok]); (try with_reducible rfl))); (case ha56 => (simp only [Act.put, hq1, hq2, hq3, Option.isNone, Bool.not_true, Bool.not_false]; (try with_reducible rfl))); (case hl56 => (simp only [Act.put, hq1, hq2, hq3, Option.isNone, Bool.not_true, Bool.not_false]; (try with_reducible rfl))))); (first | (refine held_skip (i := 7) (a' := ?hA57) (l' := ?hL57) rfl (by kernel_rfl) (by kernel_rfl) (by kernel_rfl) (fun _ _ _ h => h) (by rfl) (by assumption) ?ha57 ?hl57 ?hh57; (case ha57 => (simp only [Act.put, hq1, hq2, hq3, Option.isNone, Bool.not_true, Bool.not_false]; (try with_reducible rfl))); (case hl57 => (simp only [Act.put, hq1, hq2, hq3, Option.isNone, Bool.not_true, Bool.not_false]; (try with_reducible rfl)))) | (refine held_take (i := 7) (v := ?hV57) (a' := ?hA57) (l' := ?hL57) rfl (by kernel_rfl) (by kernel_rfl) (by kernel_rfl) (fun _ _ _ h => h) (by rfl) ?hv57 (by assumption) ?ha57 ?hl57 ?hh57; (case hv57 => (intro w hSw; (try dsimp only at hSw); go_simp; (try simp only [run_eql_slice_nil _ 36 _ _ _ _ Try.underlying36, Result.andThen_ok]); (try with_reducible rfl))); (case ha57 => (simp only [Act.put, hq1, hq2, hq3, Option.isNone, Bool.not_true, Bool.not_false]; (try with_reducible rfl))); (case hl57 => (simp only [Act.put, hq1, hq2, hq3, Option.isNone, Bool.not_true, Bool.not_false]; (try with_reducible rfl))))); (first | (refine held_skip (i := 8) (a' := ?hA58) (l' := ?hL58) rfl (by kernel_rfl) (by kernel_rfl) (by kernel_rfl) (fun _ _ _ h => h) (by rfl) (by assumption) ?ha58 ?hl58 ?hh58; (case ha58 => (simp only [Act.put, hq1, hq2, hq3, Option.isNone, Bool.not_true, Bool.not_false]; (try with_reducible rfl))); (case hl58 => (simp only [Act.put, hq1, hq2, hq3, Option.isNone, Bool.not_true, Bool.not_false]; (try with_reducible rfl)))) | (refine held_take (i := 8) (v := ?hV58) (a' := ?hA58) (l' := ?hL58) rfl (by kernel_rfl) (by kernel_rfl) (by kernel_rfl) (fun _ _ _ h => h) (by rfl) ?hv58 (by assumption) ?ha58 ?hl58 ?hh58; (case hv58 => (intro w hSw; (try dsimp only at hSw); go_simp; (try simp only [run_eql_slice_nil _ 36 _ _ _ _ Try.underlying36, Result.andThen_ok]); (try with_reducible rfl))); (case ha58 => (simp only [Act.put, hq1, hq2, hq3, Option.isNone, Bool.not_true, Bool.not_false]; (try with_reducible rfl))); (case hl58 => (simp only [Act.put, hq1, hq2, hq3, Option.isNone, Bool.not_true, Bool.not_false]; (try with_reducible rfl))))); (first | (refine held_skip (i := 9) (a' := ?hA59) (l' := ?hL59) rfl (by kernel_rfl) (by kernel_rfl) (by kernel_rfl) (fun _ _ _ h => h) (by rfl) (by assumption) ?ha59 ?hl59 ?hh59; (case ha59 => (simp only [Act.put, hq1, hq2, hq3, Option.isNone, Bool.not_true, Bool.not_false]; (try with_reducible rfl))); (case hl59 => (simp only [Act.put, hq1, hq2, hq3, Option.isNone, Bool.not_true, Bool.not_false]; (try with_reducible rfl)))) | (refine held_take (i := 9) (v := ?hV59) (a' := ?hA59) (l' := ?hL59) rfl (by kernel_rfl) (by kernel_rfl) (by kernel_rfl) (fun _ _ _ h => h) (by rfl) ?hv59 (by assumption) ?ha59 ?hl59 ?hh59; (case hv59 => (intro w hSw; (try dsimp only at hSw); go_simp; (try simp only [run_eql_slice_nil _ 36 _ _ _ _ Try.underlying36, Result.andThen_ok]); (try with_reducible rfl))); (case ha59 => (simp only [Act.put, hq1, hq2, hq3, Option.isNone, Bool.not_true, Bool.not_false]; (try with_reducible rfl))); (case hl59 => (simp only [Act.put, hq1, hq2, hq3, Option.isNone, Bool.not_true, Bool.not_false]; (try with_reducible rfl))))))
      refine wpAnyH_done (by kernel_rfl) ?_ _
      clear hHeld
      go_wp2_with fail
      go_ret2
      have hFr : Fr w W2.drew := HF2.out.trans (Below.refl _ _).drew
      exact .inr ⟨p.keep, i, x, g, c, Ac, nc, cc, vS, vT, T, E2.out, rfl, hFr.chg, (H.out.fr hFr).blk, HFO.out.fr (Below.refl _ _).drew⟩
    · have E2 := Lib.hid (E1.out.trans (if_pos h3))
      have hq := fun (V : World) => eqHd x.h h V
      rw [decide_eq_false h3] at hq
      clear E1 h3
      go_upto_region 5 with fail
      refine held_begin (n := 10) (bs := #[false, false, false, false, false, false, false, false, false, false]) rfl rfl (by kernel_rfl) (S := fun w' => w'.cell? ⟨pb, 1, none⟩ = some (.slice (some ⟨g, 0, none⟩) n c) ∧ w'.cell? ⟨g, i * 16, none⟩ = some (.int .i64 x.h.frm) ∧ w'.cell? ⟨g, i * 16 + 1, none⟩ = some (.int .i64 x.h.seq) ∧ w'.cell? ⟨g, i * 16 + 2, none⟩ = some (.int .i64 x.h.to) ∧ w'.cell? ⟨g, i * 16 + 3, none⟩ = some (.int .i64 x.h.till) ∧ w'.cell? ⟨g, i * 16 + 4, none⟩ = some (.int .i64 x.h.bytes) ∧ w'.cell? ⟨g, i * 16 + 5, none⟩ = some (.int .i64 x.h.block) ∧ w'.cell? ⟨q, 0, none⟩ = some (.int .i64 h.frm) ∧ w'.cell? ⟨q, 1, none⟩ = some (.int .i64 h.seq) ∧ w'.cell? ⟨q, 2, none⟩ = some (.int .i64 h.to) ∧ w'.cell? ⟨q, 3, none⟩ = some (.int .i64 h.till) ∧ w'.cell? ⟨q, 4, none⟩ = some (.int .i64 h.bytes) ∧ w'.cell? ⟨q, 5, none⟩ = some (.int .i64 h.block)) (hS5.out _ (Below.refl _ _).drew) (fun hHeld => ?_)
      ((first | (refine held_skip (i := 0) (a' := ?hA60) (l' := ?hL60) rfl (by kernel_rfl) (by kernel_rfl) (by kernel_rfl) (fun _ _ _ h => h) (by rfl) (by assumption) ?ha60 ?hl60 ?hh60; (case ha60 => (simp only [Act.put, hq1, hq2, hq3, Option.isNone, Bool.not_true, Bool.not_false]; (try with_reducible rfl))); (case hl60 => (simp only [Act.put, hq1, hq2, hq3, Option.isNone, Bool.not_true, Bool.not_false]; (try with_reducible rfl)))) | (refine held_take (i := 0) (v := ?hV60) (a' := ?hA60) (l' := ?hL60) rfl (by kernel_rfl) (by kernel_rfl) (by kernel_rfl) (fun _ _ _ h => h) (by rfl) ?hv60 (by assumption) ?ha60 ?hl60 ?hh60; (case hv60 => (intro w hSw; (try dsimp only at hSw); go_simp; (try simp only [run_eql_slice_nil _ 36 _ _ _ _ Try.underlying36, Result.andThen_ok]); (try with_reducible rfl))); (case ha60 => (simp only [Act.put, hq1, hq2, hq3, Option.isNone, Bool.not_true, Bool.not_false]; (try with_reducible rfl))); (case hl60 => (simp only [Act.put, hq1, hq2, hq3, Option.isNone, Bool.not_true, Bool.not_false]; (try with_reducible rfl))))); (first | (refine held_skip (i := 1) (a' := ?hA61) (l' := ?hL61) rfl (by kernel_rfl) (by kernel_rfl) (by kernel_rfl) (fun _ _ _ h => h) (by rfl) (by assumption) ?ha61 ?hl61 ?hh61; (case ha61 => (simp only [Act.put, hq1, hq2, hq3, Option.isNone, Bool.not_true, Bool.not_false]; (try with_reducible rfl))); (case hl61 => (simp only [Act.put, hq1, hq2, hq3, Option.isNone, Bool.not_true, Bool.not_false]; (try with_reducible rfl)))) | (refine held_take (i := 1) (v := ?hV61) (a' := ?hA61) (l' := ?hL61) rfl (by kernel_rfl) (by kernel_rfl) (by kernel_rfl) (fun _ _ _ h => h) (by rfl) ?hv61 (by assumption) ?ha61 ?hl61 ?hh61; (case hv61 => (intro w hSw; (try dsimp only at hSw); go_simp; (try simp only [run_eql_slice_nil _ 36 _ _ _ _ Try.underlying36, Result.andThen_ok]); (try with_reducible rfl))); (case ha61 => (simp only [Act.put, hq1, hq2, hq3, Option.isNone, Bool.not_true, Bool.not_false]; (try with_reducible rfl))); (case hl61 => (simp only [Act.put, hq1, hq2, hq3, Option.isNone, Bool.not_true, Bool.not_false]; (try with_reducible rfl))))); (first | (refine held_skip (i := 2) (a' := ?hA62) (l' := ?hL62) rfl (by kernel_rfl) (by kernel_rfl) (by kernel_rfl) (fun _ _ _ h => h) (by rfl) (by assumption) ?ha62 ?hl62 ?hh62; (case ha62 => (simp only [Act.put, hq1, hq2, hq3, Option.isNone, Bool.not_true, Bool.not_false]; (try with_reducible rfl))); (case hl62 => (simp only [Act.put, hq1, hq2, hq3, Option.isNone, Bool.not_true, Bool.not_false]; (try with_reducible rfl)))) | (refine held_take (i := 2) (v := ?hV62) (a' := ?hA62) (l' := ?hL62) rfl (by kernel_rfl) (by kernel_rfl) (by kernel_rfl) (fun _ _ _ h => h) (by rfl) ?hv62 (by assumption) ?ha62 ?hl62 ?hh62; (case hv62 => (intro w hSw; (try dsimp only at hSw); go_simp; (try simp only [run_eql_slice_nil _ 36 _ _ _ _ Try.underlying36, Result.andThen_ok]); (try with_reducible rfl))); (case ha62 => (simp only [Act.put, hq1, hq2, hq3, Option.isNone, Bool.not_true, Bool.not_false]; (try with_reducible rfl))); (case hl62 => (simp only [Act.put, hq1, hq2, hq3, Option.isNone, Bool.not_true, Bool.not_false]; (try with_reducible rfl))))); (first | (refine held_skip (i := 3) (a' := ?hA63) (l' := ?hL63) rfl (by kernel_rfl) (by kernel_rfl) (by kernel_rfl) (fun _ _ _ h => h) (by rfl) (by assumption) ?ha63 ?hl63 ?hh63; (case ha63 => (simp only [Act.put, hq1, hq2, hq3, Option.isNone, Bool.not_true, Bool.not_false]; (try with_reducible rfl))); (case hl63 => (simp only [Act.put, hq1, hq2, hq3, Option.isNone, Bool.not_true, Bool.not_false]; (try with_reducible rfl)))) | (refine held_take (i := 3) (v := ?hV63) (a' := ?hA63) (l' := ?hL63) rfl (by kernel_rfl) (by kernel_rfl) (by kernel_rfl) (fun _ _ _ h => h) (by rfl) ?hv63 (by assumption) ?ha63 ?hl63 ?hh63; (case hv63 => (intro w hSw; (try dsimp only at hSw); go_simp; (try simp only [run_eql_slice_nil _ 36 _ _ _ _ Try.underlying36, Result.andThen_ok]); (try with_reducible rfl))); (case ha63 => (simp only [Act.put, hq1, hq2, hq3, Option.isNone, Bool.not_true, Bool.not_false]; (try with_reducible rfl))); (case hl63 => (simp only [Act.put, hq1, hq2, hq3, Option.isNone, Bool.not_true, Bool.not_false]; (try with_reducible rfl))))); (first | (refine held_skip (i := 4) (a' := ?hA64) (l' := ?hL64) rfl (by kernel_rfl) (by kernel_rfl) (by kernel_rfl) (fun _ _ _ h => h) (by rfl) (by assumption) ?ha64 ?hl64 ?hh64; (case ha64 => (simp only [Act.put, hq1, hq2, hq3, Option.isNone, Bool.not_true, Bool.not_false]; (try with_reducible rfl))); (case hl64 => (simp only [Act.put, hq1, hq2, hq3, Option.isNone, Bool.not_true, Bool.not_false]; (try with_reducible rfl)))) | (refine held_take (i := 4) (v := ?hV64) (a' := ?hA64) (l' := ?hL64) rfl (by kernel_rfl) (by kernel_rfl) (by kernel_rfl) (fun _ _ _ h => h) (by rfl) ?hv64 (by assumption) ?ha64 ?hl64 ?hh64; (case hv64 => (intro w hSw; (try dsimp only at hSw); go_simp; (try simp only [run_eql_slice_nil _ 36 _ _ _ _ Try.underlying36, Result.andThen_ok]); (try with_reducible rfl))); (case ha64 => (simp only [Act.put, hq1, hq2, hq3, Option.isNone, Bool.not_true, Bool.not_false]; (try with_reducible rfl))); (case hl64 => (simp only [Act.put, hq1, hq2, hq3, Option.isNone, Bool.not_true, Bool.not_false]; (try with_reducible rfl))))); (first | (refine held_skip (i := 5) (a' := ?hA65) (l' := ?hL65) rfl (by kernel_rfl) (by kernel_rfl) (by kernel_rfl) (fun _ _ _ h => h) (by rfl) (by assumption) ?ha65 ?hl65 ?hh65; (case ha65 => (simp only [Act.put, hq1, hq2, hq3, Option.isNone, Bool.not_true, Bool.not_false]; (try with_reducible rfl))); (case hl65 => (simp only [Act.put, hq1, hq2, hq3, Option.isNone, Bool.not_true, Bool.not_false]; (try with_reducible rfl)))) | (refine held_take (i := 5) (v := ?hV65) (a' := ?hA65) (l' := ?hL65) rfl (by kernel_rfl) (by kernel_rfl) (by kernel_rfl) (fun _ _ _ h => h) (by rfl) ?hv65 (by assumption) ?ha65 ?hl65 ?hh65; (case hv65 => (intro w hSw; (try dsimp only at hSw); go_simp; (try simp only [run_eql_slice_nil _ 36 _ _ _ _ Try.underlying36, Result.andThen_ok]); (try with_reducible rfl))); (case ha65 => (simp only [Act.put, hq1, hq2, hq3, Option.isNone, Bool.not_true, Bool.not_false]; (try with_reducible rfl))); (case hl65 => (simp only [Act.put, hq1, hq2, hq3, Option.isNone, Bool.not_true, Bool.not_false]; (try with_reducible rfl))))); (first | (refine held_skip (i := 6) (a' := ?hA66) (l' := ?hL66) rfl (by kernel_rfl) (by kernel_rfl) (by kernel_rfl) (fun _ _ _ h => h) (by rfl) (by assumption) ?ha66 ?hl66 ?hh66; (case ha66 => (simp only [Act.put, hq1, hq2, hq3, Option.isNone, Bool.not_true, Bool.not_false]; (try with_reducible rfl))); (case hl66 => (simp only [Act.put, hq1, hq2, hq3, Option.isNone, Bool.not_true, Bool.not_false]; (try with_reducible rfl)))) | (refine held_take (i := 6) (v := ?hV66) (a' := ?hA66) (l' := ?hL66) rfl (by kernel_rfl) (by kernel_rfl) (by kernel_rfl) (fun _ _ _ h => h) (by rfl) ?hv66 (by assumption) ?ha66 ?hl66 ?hh66; (case hv66 => (intro w hSw; (try dsimp only at hSw); go_simp; (try simp only [run_eql_slice_nil _ 36 _ _ _ _ Try.underlying36, Result.andThen_ok]); (try with_reducible rfl))); (case ha66 => (simp only [Act.put, hq1, hq2, hq3, Option.isNone, Bool.not_true, Bool.not_false]; (try with_reducible rfl))); (case hl66 => (simp only [Act.put, hq1, hq2, hq3, Option.isNone, Bool.not_true, Bool.not_false]; (try with_reducible rfl))))); (first | (refine held_skip (i := 7) (a' := ?hA67) (l' := ?hL67) rfl (by kernel_rfl) (by kernel_rfl) (by kernel_rfl) (fun _ _ _ h => h) (by rfl) (by assumption) ?ha67 ?hl67 ?hh67; (case ha67 => (simp only [Act.put, hq1, hq2, hq3, Option.isNone, Bool.not_true, Bool.not_false]; (try with_reducible rfl))); (case hl67 => (simp only [Act.put, hq1, hq2, hq3, Option.isNone, Bool.not_true, Bool.not_false]; (try with_reducible rfl)))) | (refine held_take (i := 7) (v := ?hV67) (a' := ?hA67) (l' := ?hL67) rfl (by kernel_rfl) (by kernel_rfl) (by kernel_rfl) (fun _ _ _ h => h) (by rfl) ?hv67 (by assumption) ?ha67 ?hl67 ?hh67; (case hv67 => (intro w hSw; (try dsimp only at hSw); go_simp; (try simp only [run_eql_slice_nil _ 36 _ _ _ _ Try.underlying36, Result.andThen_ok]); (try with_reducible rfl))); (case ha67 => (simp only [Act.put, hq1, hq2, hq3, Option.isNone, Bool.not_true, Bool.not_false]; (try with_reducible rfl))); (case hl67 => (simp only [Act.put, hq1, hq2, hq3, Option.isNone, Bool.not_true, Bool.not_false]; (try with_reducible rfl))))); (first | (refine held_skip (i := 8) (a' := ?hA68) (l' := ?hL68) rfl (by kernel_rfl) (by kernel_rfl) (by kernel_rfl) (fun _ _ _ h => h) (by rfl) (by assumption) ?ha68 ?hl68 ?hh68; (case ha68 => (simp only [Act.put, hq1, hq2, hq3, Option.isNone, Bool.not_true, Bool.not_false]; (try with_reducible rfl))); (case hl68 => (simp only [Act.put, hq1, hq2, hq3, Option.isNone, Bool.not_true, Bool.not_false]; (try with_reducible rfl)))) | (refine held_take (i := 8) (v := ?hV68) (a' := ?hA68) (l' := ?hL68) rfl (by kernel_rfl) (by kernel_rfl) (by kernel_rfl) (fun _ _ _ h => h) (by rfl) ?hv68 (by assumption) ?ha68 ?hl68 ?hh68; (case hv68 => (intro w hSw; (try dsimp only at hSw); go_simp; (try simp only [run_eql_slice_nil _ 36 _ _ _ _ Try.underlying36, Result.andThen_ok]); (try with_reducible rfl))); (case ha68 => (simp only [Act.put, hq1, hq2, hq3, Option.isNone, Bool.not_true, Bool.not_false]; (try with_reducible rfl))); (case hl68 => (simp only [Act.put, hq1, hq2, hq3, Option.isNone, Bool.not_true, Bool.not_false]; (try with_reducible rfl))))); (first | (refine held_skip (i := 9) (a' := ?hA69) (l' := ?hL69) rfl (by kernel_rfl) (by kernel_rfl) (by kernel_rfl) (fun _ _ _ h => h) (by rfl) (by assumption) ?ha69 ?hl69 ?hh69; (case ha69 => (simp only [Act.put, hq1, hq2, hq3, Option.isNone, Bool.not_true, Bool.not_false]; (try with_reducible rfl))); (case hl69 => (simp only [Act.put, hq1, hq2, hq3, Option.isNone, Bool.not_true, Bool.not_false]; (try with_reducible rfl)))) | (refine held_take (i := 9) (v := ?hV69) (a' := ?hA69) (l' := ?hL69) rfl (by kernel_rfl) (by kernel_rfl) (by kernel_rfl) (fun _ _ _ h => h) (by rfl) ?hv69 (by assumption) ?ha69 ?hl69 ?hh69; (case hv69 => (intro w hSw; (try dsimp only at hSw); go_simp; (try simp only [run_eql_slice_nil _ 36 _ _ _ _ Try.underlying36, Result.andThen_ok]); (try with_reducible rfl))); (case ha69 => (simp only [Act.put, hq1, hq2, hq3, Option.isNone, Bool.not_true, Bool.not_false]; (try with_reducible rfl))); (case hl69 => (simp only [Act.put, hq1, hq2, hq3, Option.isNone, Bool.not_true, Bool.not_false]; (try with_reducible rfl))))))
      refine wpAnyH_done (by kernel_rfl) ?_ _
      clear hHeld
      go_wp2_with fail
      go_ret2
      exact FIN.out _ _ _ (by (repeat' (first | exact Below.refl _ _ | refine below_drewN ?_ _ | refine Below.drew ?_ | refine frA ?_ _ | refine Fr.trans ?_ HF2.out))) (by decide) E2.out
  | none =>
    simp only [] at hkf2
    subst hkf2
    dsimp only at E1
    by_cases h2 : h.frm = p.me
    · have E2 := Lib.hid (E1.out.trans (if_pos h2))
      have t2 : (h.frm == p.me) = true := by simp [h2]
      clear E1 h2
      go_upto_region 8 with fail
      go_quiet (fail)
      go_wp2_with fail
      go_ret2
      exact FIN.out _ _ _ (by (repeat' (first | exact Below.refl _ _ | refine below_drewN ?_ _ | refine Below.drew ?_ | refine frA ?_ _ | refine Fr.trans ?_ HF2.out))) (by decide) E2.out
    · have E2 := Lib.hid (E1.out.trans (if_neg h2))
      have t2 : (h.frm == p.me) = false := by simp [h2]
      clear E1 h2
      go_upto_region 8 with fail
      go_quiet (fail)
      go_upto_region 10 with fail
      obtain ⟨W4, hW4⟩ : ∃ W4, W4 = W2.drewN nq := ⟨_, rfl⟩
      have HF24 : Hid (Fr W2 W4) := by rw [hW4]; exact below_drewN (Below.refl _ _) _
      rw [← hW4]
      have HF4 : Hid (Fr w W4) := HF2.out.trans HF24.out
      have HQ4 := Lib.hid (blk_go HQ2.out HF24.out)
      clear hW4 HF24 HF2 HQ2 t2 bp0 bp1 bp2 bp3 bx0 bx1 bx2 bx3 bx4 bx5
      obtain ⟨W2, rfl⟩ : ∃ W2, W2 = W4 := ⟨_, rfl⟩
      have HF2 := HF4
      have HQ2 := HQ4
      have hbx := (H.out.fr HF2.out).blk
      rw [← HN.out] at hbx
      have hqx := HQ2.out
      (obtain ⟨bp0, bp1, bp2, bp3⟩ := box4_ hbx)
      (obtain ⟨bx0, bx1, bx2, bx3, bx4, bx5⟩ := box6_ hqx)
      clear hbx hqx
      rw [← HN.out] at h12 E2
      by_cases h6 : n = 12
      · have E3 := Lib.hid (E2.out.trans (if_pos h6))
        have t6 : ((n : Int) == 12) = true := by simp [h6]
        clear E2 h6
        go_wp2_with fail
        go_ret2
        exact FIN.out _ _ _ HF2.out (by decide) E3.out
      · have E6 := Lib.hid (E2.out.trans (if_neg h6))
        have t6 : ((n : Int) == 12) = false := by simp; omega
        have h11 : n ≤ 11 := by omega
        clear E2 h6 h12 FIN
        obtain ⟨A9, c9, e9, ⟨hc9, hm9⟩, hsl⟩ := (((H.out.fr HF2.out).plM.own).ofHi sKp).slC sKp (by decide)
        injection e9 with e9 _ e10
        subst e9 e10
        rw [← HN.out] at hsl hc9
        have HSL := Lib.hid hsl
        obtain ⟨pa, hpa⟩ : ∃ pa, pa = placeAt p.keep h := ⟨_, rfl⟩
        have HPA : Hid (pa = 0 + ((p.keep.drop 0).takeWhile fun y => aheadB y.h h).length) := by rw [Hid, List.drop_zero, hpa, Nat.zero_add]; rfl
        (have Hpa := Lib.hid hpa; clear hpa)
        clear hsl
        go_wp2_with fail
        go_loopw [7] (fun s7 wr => ∃ k : Nat, k ≤ n ∧ s7 = .int .i64 k ∧ Hid (pa = k + ((p.keep.drop k).takeWhile fun y => aheadB y.h h).length) ∧ Hid (Fr W2 wr)) (fun i _ => n - (intOf i).toNat)
        case atStart => exact ⟨0, Nat.zero_le _, rfl, HPA, Below.refl _ _⟩
        case round =>
          obtain ⟨k, hk, rfl, HS, HF⟩ := hrel
          have hbx := (H.out.fr (HF2.out.trans HF.out)).blk
          rw [← HN.out] at hbx
          have hqx := blk_go HQ2.out HF.out
          clear bp0 bp1 bp2 bp3 bx0 bx1 bx2 bx3 bx4 bx5
          (obtain ⟨bp0, bp1, bp2, bp3⟩ := box4_ hbx)
          (obtain ⟨bx0, bx1, bx2, bx3, bx4, bx5⟩ := box6_ hqx)
          clear hbx hqx bp0 bp2 bp3
          by_cases hlt : k < n
          · obtain ⟨ad, hAd, hE⟩ := (HSL.out.go sKp HF.out).els (by omega)
            subst hAd
            obtain ⟨y, hy, hr⟩ := hE.row hlt
            obtain ⟨A1, n1', c1, A2, n2, c2, A3, n3, c3, ⟨m0, m1, m2, m3, m4, m5, _⟩, _⟩ := eKp_at hr
            have hSC : Hid (∀ w', Fr wr w' → w'.cell? ⟨pb, 1, none⟩ = some (.slice (some ad) n c) ∧ w'.cell? (ad.add (k * 16)) = some (.int .i64 y.h.frm) ∧ w'.cell? ⟨(ad.add (k * 16)).block, (ad.add (k * 16)).off + 1, none⟩ = some (.int .i64 y.h.seq) ∧ w'.cell? ⟨(ad.add (k * 16)).block, (ad.add (k * 16)).off + 2, none⟩ = some (.int .i64 y.h.to) ∧ w'.cell? ⟨(ad.add (k * 16)).block, (ad.add (k * 16)).off + 3, none⟩ = some (.int .i64 y.h.till) ∧ w'.cell? ⟨(ad.add (k * 16)).block, (ad.add (k * 16)).off + 4, none⟩ = some (.int .i64 y.h.bytes) ∧ w'.cell? ⟨(ad.add (k * 16)).block, (ad.add (k * 16)).off + 5, none⟩ = some (.int .i64 y.h.block) ∧ w'.cell? ⟨q, 0, none⟩ = some (.int .i64 h.frm) ∧ w'.cell? ⟨q, 1, none⟩ = some (.int .i64 h.seq) ∧ w'.cell? ⟨q, 2, none⟩ = some (.int .i64 h.to) ∧ w'.cell? ⟨q, 3, none⟩ = some (.int .i64 h.till) ∧ w'.cell? ⟨q, 4, none⟩ = some (.int .i64 h.bytes) ∧ w'.cell? ⟨q, 5, none⟩ = some (.int .i64 h.block)) := fun w' hf => ⟨(hf.cell (World.block_lt_of_cell? wr _ bp1)).trans bp1, (hf.cell (World.block_lt_of_cell? wr _ m0)).trans m0, (hf.cell (World.block_lt_of_cell? wr _ m1)).trans m1, (hf.cell (World.block_lt_of_cell? wr _ m2)).trans m2, (hf.cell (World.block_lt_of_cell? wr _ m3)).trans m3, (hf.cell (World.block_lt_of_cell? wr _ m4)).trans m4, (hf.cell (World.block_lt_of_cell? wr _ m5)).trans m5, (hf.cell (World.block_lt_of_cell? wr _ bx0)).trans bx0, (hf.cell (World.block_lt_of_cell? wr _ bx1)).trans bx1, (hf.cell (World.block_lt_of_cell? wr _ bx2)).trans bx2, (hf.cell (World.block_lt_of_cell? wr _ bx3)).trans bx3, (hf.cell (World.block_lt_of_cell? wr _ bx4)).trans bx4, (hf.cell (World.block_lt_of_cell? wr _ bx5)).trans bx5⟩
            obtain ⟨ab, hab⟩ : ∃ ab, ab = aheadB y.h h := ⟨_, rfl⟩
            have AH : Hid (∀ W, Calls Try.prog 16 #[.agg #[.int .i64 y.h.frm, .int .i64 y.h.seq, .int .i64 y.h.to, .int .i64 y.h.till, .int .i64 y.h.bytes, .int .i64 y.h.block], .agg #[.int .i64 h.frm, .int .i64 h.seq, .int .i64 h.to, .int .i64 h.till, .int .i64 h.bytes, .int .i64 h.block]] W fun e w' => e = .returned (.bool ab) ∧ Fr W w') := fun W => by rw [hab]; exact ahead_any W _ _
            have hlt2 : (k : Int) < (n : Int) := by omega
            have HYY := Lib.hid hy
            have HAB := Lib.hid hab
            clear hE hy hr hab m0 m1 m2 m3 m4 m5 bp1 bx0 bx1 bx2 bx3 bx4 bx5
            go_upto_region 13 with fail
            refine held_begin (n := 19) (bs := #[false, false, false, false, false, false, false, false, false, false, false, false, false, false, false, false, false, false, false]) rfl rfl (by kernel_rfl) (S := fun w' => w'.cell? ⟨pb, 1, none⟩ = some (.slice (some ad) n c) ∧ w'.cell? (ad.add (k * 16)) = some (.int .i64 y.h.frm) ∧ w'.cell? ⟨(ad.add (k * 16)).block, (ad.add (k * 16)).off + 1, none⟩ = some (.int .i64 y.h.seq) ∧ w'.cell? ⟨(ad.add (k * 16)).block, (ad.add (k * 16)).off + 2, none⟩ = some (.int .i64 y.h.to) ∧ w'.cell? ⟨(ad.add (k * 16)).block, (ad.add (k * 16)).off + 3, none⟩ = some (.int .i64 y.h.till) ∧ w'.cell? ⟨(ad.add (k * 16)).block, (ad.add (k * 16)).off + 4, none⟩ = some (.int .i64 y.h.bytes) ∧ w'.cell? ⟨(ad.add (k * 16)).block, (ad.add (k * 16)).off + 5, none⟩ = some (.int .i64 y.h.block) ∧ w'.cell? ⟨q, 0, none⟩ = some (.int .i64 h.frm) ∧ w'.cell? ⟨q, 1, none⟩ = some (.int .i64 h.seq) ∧ w'.cell? ⟨q, 2, none⟩ = some (.int .i64 h.to) ∧ w'.cell? ⟨q, 3, none⟩ = some (.int .i64 h.till) ∧ w'.cell? ⟨q, 4, none⟩ = some (.int .i64 h.bytes) ∧ w'.cell? ⟨q, 5, none⟩ = some (.int .i64 h.block)) (hSC.out _ (Below.refl _ _).drew) (fun hHeld => ?_)
            ((first | (refine held_skip (i := 0) (a' := ?hA70) (l' := ?hL70) rfl (by kernel_rfl) (by kernel_rfl) (by kernel_rfl) (fun _ _ _ h => h) (by rfl) (by assumption) ?ha70 ?hl70 ?hh70; (case ha70 => (simp only [Act.put, hq1, hq2, hq3, Option.isNone, Bool.not_true, Bool.not_false]; (try with_reducible rfl))); (case hl70 => (simp only [Act.put, hq1, hq2, hq3, Option.isNone, Bool.not_true, Bool.not_false]; (try with_reducible rfl)))) | (refine held_take (i := 0) (v := ?hV70) (a' := ?hA70) (l' := ?hL70) rfl (by kernel_rfl) (by kernel_rfl) (by kernel_rfl) (fun _ _ _ h => h) (by rfl) ?hv70 (by assumption) ?ha70 ?hl70 ?hh70; (case hv70 => (intro w hSw; (try dsimp only at hSw); go_simp; (try simp only [run_eql_slice_nil _ 36 _ _ _ _ Try.underlying36, Result.andThen_ok]); (try with_reducible rfl))); (case ha70 => (simp only [Act.put, hq1, hq2, hq3, Option.isNone, Bool.not_true, Bool.not_false]; (try with_reducible rfl))); (case hl70 => (simp only [Act.put, hq1, hq2, hq3, Option.isNone, Bool.not_true, Bool.not_false]; (try with_reducible rfl))))); (first | (refine held_skip (i := 1) (a' := ?hA71) (l' := ?hL71) rfl (by kernel_rfl) (by kernel_rfl) (by kernel_rfl) (fun _ _ _ h => h) (by rfl) (by assumption) ?ha71 ?hl71 ?hh71; (case ha71 => (simp only [Act.put, hq1, hq2, hq3, Option.isNone, Bool.not_true, Bool.not_false]; (try with_reducible rfl))); (case hl71 => (simp only [Act.put, hq1, hq2, hq3, Option.isNone, Bool.not_true, Bool.not_false]; (try with_reducible rfl)))) | (refine held_take (i := 1) (v := ?hV71) (a' := ?hA71) (l' := ?hL71) rfl (by kernel_rfl) (by kernel_rfl) (by kernel_rfl) (fun _ _ _ h => h) (by rfl) ?hv71 (by assumption) ?ha71 ?hl71 ?hh71; (case hv71 => (intro w hSw; (try dsimp only at hSw); go_simp; (try simp only [run_eql_slice_nil _ 36 _ _ _ _ Try.underlying36, Result.andThen_ok]); (try with_reducible rfl))); (case ha71 => (simp only [Act.put, hq1, hq2, hq3, Option.isNone, Bool.not_true, Bool.not_false]; (try with_reducible rfl))); (case hl71 => (simp only [Act.put, hq1, hq2, hq3, Option.isNone, Bool.not_true, Bool.not_false]; (try with_reducible rfl))))); (first | (refine held_skip (i := 2) (a' := ?hA72) (l' := ?hL72) rfl (by kernel_rfl) (by kernel_rfl) (by kernel_rfl) (fun _ _ _ h => h) (by rfl) (by assumption) ?ha72 ?hl72 ?hh72; (case ha72 => (simp only [Act.put, hq1, hq2, hq3, Option.isNone, Bool.not_true, Bool.not_false]; (try with_reducible rfl))); (case hl72 => (simp only [Act.put, hq1, hq2, hq3, Option.isNone, Bool.not_true, Bool.not_false]; (try with_reducible rfl)))) | (refine held_take (i := 2) (v := ?hV72) (a' := ?hA72) (l' := ?hL72) rfl (by kernel_rfl) (by kernel_rfl) (by kernel_rfl) (fun _ _ _ h => h) (by rfl) ?hv72 (by assumption) ?ha72 ?hl72 ?hh72; (case hv72 => (intro w hSw; (try dsimp only at hSw); go_simp; (try simp only [run_eql_slice_nil _ 36 _ _ _ _ Try.underlying36, Result.andThen_ok]); (try with_reducible rfl))); (case ha72 => (simp only [Act.put, hq1, hq2, hq3, Option.isNone, Bool.not_true, Bool.not_false]; (try with_reducible rfl))); (case hl72 => (simp only [Act.put, hq1, hq2, hq3, Option.isNone, Bool.not_true, Bool.not_false]; (try with_reducible rfl))))); (first | (refine held_skip (i := 3) (a' := ?hA73) (l' := ?hL73) rfl (by kernel_rfl) (by kernel_rfl) (by kernel_rfl) (fun _ _ _ h => h) (by rfl) (by assumption) ?ha73 ?hl73 ?hh73; (case ha73 => (simp only [Act.put, hq1, hq2, hq3, Option.isNone, Bool.not_true, Bool.not_false]; (try with_reducible rfl))); (case hl73 => (simp only [Act.put, hq1, hq2, hq3, Option.isNone, Bool.not_true, Bool.not_false]; (try with_reducible rfl)))) | (refine held_take (i := 3) (v := ?hV73) (a' := ?hA73) (l' := ?hL73) rfl (by kernel_rfl) (by kernel_rfl) (by kernel_rfl) (fun _ _ _ h => h) (by rfl) ?hv73 (by assumption) ?ha73 ?hl73 ?hh73; (case hv73 => (intro w hSw; (try dsimp only at hSw); go_simp; (try simp only [run_eql_slice_nil _ 36 _ _ _ _ Try.underlying36, Result.andThen_ok]); (try with_reducible rfl))); (case ha73 => (simp only [Act.put, hq1, hq2, hq3, Option.isNone, Bool.not_true, Bool.not_false]; (try with_reducible rfl))); (case hl73 => (simp only [Act.put, hq1, hq2, hq3, Option.isNone, Bool.not_true, Bool.not_false]; (try with_reducible rfl))))); (first | (refine held_skip (i := 4) (a' := ?hA74) (l' := ?hL74) rfl (by kernel_rfl) (by kernel_rfl) (by kernel_rfl) (fun _ _ _ h => h) (by rfl) (by assumption) ?ha74 ?hl74 ?hh74; (case ha74 => (simp only [Act.put, hq1, hq2, hq3, Option.isNone, Bool.not_true, Bool.not_false]; (try with_reducible rfl))); (case hl74 => (simp only [Act.put, hq1, hq2, hq3, Option.isNone, Bool.not_true, Bool.not_false]; (try with_reducible rfl)))) | (refine held_take (i := 4) (v := ?hV74) (a' := ?hA74) (l' := ?hL74) rfl (by kernel_rfl) (by kernel_rfl) (by kernel_rfl) (fun _ _ _ h => h) (by rfl) ?hv74 (by assumption) ?ha74 ?hl74 ?hh74; (case hv74 => (intro w hSw; (try dsimp only at hSw); go_simp; (try simp only [run_eql_slice_nil _ 36 _ _ _ _ Try.underlying36, Result.andThen_ok]); (try with_reducible rfl))); (case ha74 => (simp only [Act.put, hq1, hq2, hq3, Option.isNone, Bool.not_true, Bool.not_false]; (try with_reducible rfl))); (case hl74 => (simp only [Act.put, hq1, hq2, hq3, Option.isNone, Bool.not_true, Bool.not_false]; (try with_reducible rfl))))); (first | (refine held_skip (i := 5) (a' := ?hA75) (l' := ?hL75) rfl (by kernel_rfl) (by kernel_rfl) (by kernel_rfl) (fun _ _ _ h => h) (by rfl) (by assumption) ?ha75 ?hl75 ?hh75; (case ha75 => (simp only [Act.put, hq1, hq2, hq3, Option.isNone, Bool.not_true, Bool.not_false]; (try with_reducible rfl))); (case hl75 => (simp only [Act.put, hq1, hq2, hq3, Option.isNone, Bool.not_true, Bool.not_false]; (try with_reducible rfl)))) | (refine held_take (i := 5) (v := ?hV75) (a' := ?hA75) (l' := ?hL75) rfl (by kernel_rfl) (by kernel_rfl) (by kernel_rfl) (fun _ _ _ h => h) (by rfl) ?hv75 (by assumption) ?ha75 ?hl75 ?hh75; (case hv75 => (intro w hSw; (try dsimp only at hSw); go_simp; (try simp only [run_eql_slice_nil _ 36 _ _ _ _ Try.underlying36, Result.andThen_ok]); (try with_reducible rfl))); (case ha75 => (simp only [Act.put, hq1, hq2, hq3, Option.isNone, Bool.not_true, Bool.not_false]; (try with_reducible rfl))); (case hl75 => (simp only [Act.put, hq1, hq2, hq3, Option.isNone, Bool.not_true, Bool.not_false]; (try with_reducible rfl))))); (first | (refine held_skip (i := 6) (a' := ?hA76) (l' := ?hL76) rfl (by kernel_rfl) (by kernel_rfl) (by kernel_rfl) (fun _ _ _ h => h) (by rfl) (by assumption) ?ha76 ?hl76 ?hh76; (case ha76 => (simp only [Act.put, hq1, hq2, hq3, Option.isNone, Bool.not_true, Bool.not_false]; (try with_reducible rfl))); (case hl76 => (simp only [Act.put, hq1, hq2, hq3, Option.isNone, Bool.not_true, Bool.not_false]; (try with_reducible rfl)))) | (refine held_take (i := 6) (v := ?hV76) (a' := ?hA76) (l' := ?hL76) rfl (by kernel_rfl) (by kernel_rfl) (by kernel_rfl) (fun _ _ _ h => h) (by rfl) ?hv76 (by assumption) ?ha76 ?hl76 ?hh76; (case hv76 => (intro w hSw; (try dsimp only at hSw); go_simp; (try simp only [run_eql_slice_nil _ 36 _ _ _ _ Try.underlying36, Result.andThen_ok]); (try with_reducible rfl))); (case ha76 => (simp only [Act.put, hq1, hq2, hq3, Option.isNone, Bool.not_true, Bool.not_false]; (try with_reducible rfl))); (case hl76 => (simp only [Act.put, hq1, hq2, hq3, Option.isNone, Bool.not_true, Bool.not_false]; (try with_reducible rfl))))); (first | (refine held_skip (i := 7) (a' := ?hA77) (l' := ?hL77) rfl (by kernel_rfl) (by kernel_rfl) (by kernel_rfl) (fun _ _ _ h => h) (by rfl) (by assumption) ?ha77 ?hl77 ?hh77; (case ha77 => (simp only [Act.put, hq1, hq2, hq3, Option.isNone, Bool.not_true, Bool.not_false]; (try with_reducible rfl))); (case hl77 => (simp only [Act.put, hq1, hq2, hq3, Option.isNone, Bool.not_true, Bool.not_false]; (try with_reducible rfl)))) | (refine held_take (i := 7) (v := ?hV77) (a' := ?hA77) (l' := ?hL77) rfl (by kernel_rfl) (by kernel_rfl) (by kernel_rfl) (fun _ _ _ h => h) (by rfl) ?hv77 (by assumption) ?ha77 ?hl77 ?hh77; (case hv77 => (intro w hSw; (try dsimp only at hSw); go_simp; (try simp only [run_eql_slice_nil _ 36 _ _ _ _ Try.underlying36, Result.andThen_ok]); (try with_reducible rfl))); (case ha77 => (simp only [Act.put, hq1, hq2, hq3, Option.isNone, Bool.not_true, Bool.not_false]; (try with_reducible rfl))); (case hl77 => (simp only [Act.put, hq1, hq2, hq3, Option.isNone, Bool.not_true, Bool.not_false]; (try with_reducible rfl))))); (first | (refine held_skip (i := 8) (a' := ?hA78) (l' := ?hL78) rfl (by kernel_rfl) (by kernel_rfl) (by kernel_rfl) (fun _ _ _ h => h) (by rfl) (by assumption) ?ha78 ?hl78 ?hh78; (case ha78 => (simp only [Act.put, hq1, hq2, hq3, Option.isNone, Bool.not_true, Bool.not_false]; (try with_reducible rfl))); (case hl78 => (simp only [Act.put, hq1, hq2, hq3, Option.isNone, Bool.not_true, Bool.not_false]; (try with_reducible rfl)))) | (refine held_take (i := 8) (v := ?hV78) (a' := ?hA78) (l' := ?hL78) rfl (by kernel_rfl) (by kernel_rfl) (by kernel_rfl) (fun _ _ _ h => h) (by rfl) ?hv78 (by assumption) ?ha78 ?hl78 ?hh78; (case hv78 => (intro w hSw; (try dsimp only at hSw); go_simp; (try simp only [run_eql_slice_nil _ 36 _ _ _ _ Try.underlying36, Result.andThen_ok]); (try with_reducible rfl))); (case ha78 => (simp only [Act.put, hq1, hq2, hq3, Option.isNone, Bool.not_true, Bool.not_false]; (try with_reducible rfl))); (case hl78 => (simp only [Act.put, hq1, hq2, hq3, Option.isNone, Bool.not_true, Bool.not_false]; (try with_reducible rfl))))); (first | (refine held_skip (i := 9) (a' := ?hA79) (l' := ?hL79) rfl (by kernel_rfl) (by kernel_rfl) (by kernel_rfl) (fun _ _ _ h => h) (by rfl) (by assumption) ?ha79 ?hl79 ?hh79; (case ha79 => (simp only [Act.put, hq1, hq2, hq3, Option.isNone, Bool.not_true, Bool.not_false]; (try with_reducible rfl))); (case hl79 => (simp only [Act.put, hq1, hq2, hq3, Option.isNone, Bool.not_true, Bool.not_false]; (try with_reducible rfl)))) | (refine held_take (i := 9) (v := ?hV79) (a' := ?hA79) (l' := ?hL79) rfl (by kernel_rfl) (by kernel_rfl) (by kernel_rfl) (fun _ _ _ h => h) (by rfl) ?hv79 (by assumption) ?ha79 ?hl79 ?hh79; (case hv79 => (intro w hSw; (try dsimp only at hSw); go_simp; (try simp only [run_eql_slice_nil _ 36 _ _ _ _ Try.underlying36, Result.andThen_ok]); (try with_reducible rfl))); (case ha79 => (simp only [Act.put, hq1, hq2, hq3, Option.isNone, Bool.not_true, Bool.not_false]; (try with_reducible rfl))); (case hl79 => (simp only [Act.put, hq1, hq2, hq3, Option.isNone, Bool.not_true, Bool.not_false]; (try with_reducible rfl))))); (first | (refine held_skip (i := 10) (a' := ?hA80) (l' := ?hL80) rfl (by kernel_rfl) (by kernel_rfl) (by kernel_rfl) (fun _ _ _ h => h) (by rfl) (by assumption) ?ha80 ?hl80 ?hh80; (case ha80 => (simp only [Act.put, hq1, hq2, hq3, Option.isNone, Bool.not_true, Bool.not_false]; (try with_reducible rfl))); (case hl80 => (simp only [Act.put, hq1, hq2, hq3, Option.isNone, Bool.not_true, Bool.not_false]; (try with_reducible rfl)))) | (refine held_take (i := 10) (v := ?hV80) (a' := ?hA80) (l' := ?hL80) rfl (by kernel_rfl) (by kernel_rfl) (by kernel_rfl) (fun _ _ _ h => h) (by rfl) ?hv80 (by assumption) ?ha80 ?hl80 ?hh80; (case hv80 => (intro w hSw; (try dsimp only at hSw); go_simp; (try simp only [run_eql_slice_nil _ 36 _ _ _ _ Try.underlying36, Result.andThen_ok]); (try with_reducible rfl))); (case ha80 => (simp only [Act.put, hq1, hq2, hq3, Option.isNone, Bool.not_true, Bool.not_false]; (try with_reducible rfl))); (case hl80 => (simp only [Act.put, hq1, hq2, hq3, Option.isNone, Bool.not_true, Bool.not_false]; (try with_reducible rfl))))); (first | (refine held_skip (i := 11) (a' := ?hA81) (l' := ?hL81) rfl (by kernel_rfl) (by kernel_rfl) (by kernel_rfl) (fun _ _ _ h => h) (by rfl) (by assumption) ?ha81 ?hl81 ?hh81; (case ha81 => (simp only [Act.put, hq1, hq2, hq3, Option.isNone, Bool.not_true, Bool.not_false]; (try with_reducible rfl))); (case hl81 => (simp only [Act.put, hq1, hq2, hq3, Option.isNone, Bool.not_true, Bool.not_false]; (try with_reducible rfl)))) | (refine held_take (i := 11) (v := ?hV81) (a' := ?hA81) (l' := ?hL81) rfl (by kernel_rfl) (by kernel_rfl) (by kernel_rfl) (fun _ _ _ h => h) (by rfl) ?hv81 (by assumption) ?ha81 ?hl81 ?hh81; (case hv81 => (intro w hSw; (try dsimp only at hSw); go_simp; (try simp only [run_eql_slice_nil _ 36 _ _ _ _ Try.underlying36, Result.andThen_ok]); (try with_reducible rfl))); (case ha81 => (simp only [Act.put, hq1, hq2, hq3, Option.isNone, Bool.not_true, Bool.not_false]; (try with_reducible rfl))); (case hl81 => (simp only [Act.put, hq1, hq2, hq3, Option.isNone, Bool.not_true, Bool.not_false]; (try with_reducible rfl))))); (first | (refine held_skip (i := 12) (a' := ?hA82) (l' := ?hL82) rfl (by kernel_rfl) (by kernel_rfl) (by kernel_rfl) (fun _ _ _ h => h) (by rfl) (by assumption) ?ha82 ?hl82 ?hh82; (case ha82 => (simp only [Act.put, hq1, hq2, hq3, Option.isNone, Bool.not_true, Bool.not_false]; (try with_reducible rfl))); (case hl82 => (simp only [Act.put, hq1, hq2, hq3, Option.isNone, Bool.not_true, Bool.not_false]; (try with_reducible rfl)))) | (refine held_take (i := 12) (v := ?hV82) (a' := ?hA82) (l' := ?hL82) rfl (by kernel_rfl) (by kernel_rfl) (by kernel_rfl) (fun _ _ _ h => h) (by rfl) ?hv82 (by assumption) ?ha82 ?hl82 ?hh82; (case hv82 => (intro w hSw; (try dsimp only at hSw); go_simp; (try simp only [run_eql_slice_nil _ 36 _ _ _ _ Try.underlying36, Result.andThen_ok]); (try with_reducible rfl))); (case ha82 => (simp only [Act.put, hq1, hq2, hq3, Option.isNone, Bool.not_true, Bool.not_false]; (try with_reducible rfl))); (case hl82 => (simp only [Act.put, hq1, hq2, hq3, Option.isNone, Bool.not_true, Bool.not_false]; (try with_reducible rfl))))); (first | (refine held_skip (i := 13) (a' := ?hA83) (l' := ?hL83) rfl (by kernel_rfl) (by kernel_rfl) (by kernel_rfl) (fun _ _ _ h => h) (by rfl) (by assumption) ?ha83 ?hl83 ?hh83; (case ha83 => (simp only [Act.put, hq1, hq2, hq3, Option.isNone, Bool.not_true, Bool.not_false]; (try with_reducible rfl))); (case hl83 => (simp only [Act.put, hq1, hq2, hq3, Option.isNone, Bool.not_true, Bool.not_false]; (try with_reducible rfl)))) | (refine held_take (i := 13) (v := ?hV83) (a' := ?hA83) (l' := ?hL83) rfl (by kernel_rfl) (by kernel_rfl) (by kernel_rfl) (fun _ _ _ h => h) (by rfl) ?hv83 (by assumption) ?ha83 ?hl83 ?hh83; (case hv83 => (intro w hSw; (try dsimp only at hSw); go_simp; (try simp only [run_eql_slice_nil _ 36 _ _ _ _ Try.underlying36, Result.andThen_ok]); (try with_reducible rfl))); (case ha83 => (simp only [Act.put, hq1, hq2, hq3, Option.isNone, Bool.not_true, Bool.not_false]; (try with_reducible rfl))); (case hl83 => (simp only [Act.put, hq1, hq2, hq3, Option.isNone, Bool.not_true, Bool.not_false]; (try with_reducible rfl))))); (first | (refine held_skip (i := 14) (a' := ?hA84) (l' := ?hL84) rfl (by kernel_rfl) (by kernel_rfl) (by kernel_rfl) (fun _ _ _ h => h) (by rfl) (by assumption) ?ha84 ?hl84 ?hh84; (case ha84 => (simp only [Act.put, hq1, hq2, hq3, Option.isNone, Bool.not_true, Bool.not_false]; (try with_reducible rfl))); (case hl84 => (simp only [Act.put, hq1, hq2, hq3, Option.isNone, Bool.not_true, Bool.not_false]; (try with_reducible rfl)))) | (refine held_take (i := 14) (v := ?hV84) (a' := ?hA84) (l' := ?hL84) rfl (by kernel_rfl) (by kernel_rfl) (by kernel_rfl) (fun _ _ _ h => h) (by rfl) ?hv84 (by assumption) ?ha84 ?hl84 ?hh84; (case hv84 => (intro w hSw; (try dsimp only at hSw); go_simp; (try simp only [run_eql_slice_nil _ 36 _ _ _ _ Try.underlying36, Result.andThen_ok]); (try with_reducible rfl))); (case ha84 => (simp only [Act.put, hq1, hq2, hq3, Option.isNone, Bool.not_true, Bool.not_false]; (try with_reducible rfl))); (case hl84 => (simp only [Act.put, hq1, hq2, hq3, Option.isNone, Bool.not_true, Bool.not_false]; (try with_reducible rfl))))); (first | (refine held_skip (i := 15) (a' := ?hA85) (l' := ?hL85) rfl (by kernel_rfl) (by kernel_rfl) (by kernel_rfl) (fun _ _ _ h => h) (by rfl) (by assumption) ?ha85 ?hl85 ?hh85; (case ha85 => (simp only [Act.put, hq1, hq2, hq3, Option.isNone, Bool.not_true, Bool.not_false]; (try with_reducible rfl))); (case hl85 => (simp only [Act.put, hq1, hq2, hq3, Option.isNone, Bool.not_true, Bool.not_false]; (try with_reducible rfl)))) | (refine held_take (i := 15) (v := ?hV85) (a' := ?hA85) (l' := ?hL85) rfl (by kernel_rfl) (by kernel_rfl) (by kernel_rfl) (fun _ _ _ h => h) (by rfl) ?hv85 (by assumption) ?ha85 ?hl85 ?hh85; (case hv85 => (intro w hSw; (try dsimp only at hSw); go_simp; (try simp only [run_eql_slice_nil _ 36 _ _ _ _ Try.underlying36, Result.andThen_ok]); (try with_reducible rfl))); (case ha85 => (simp only [Act.put, hq1, hq2, hq3, Option.isNone, Bool.not_true, Bool.not_false]; (try with_reducible rfl))); (case hl85 => (simp only [Act.put, hq1, hq2, hq3, Option.isNone, Bool.not_true, Bool.not_false]; (try with_reducible rfl))))); (first | (refine held_skip (i := 16) (a' := ?hA86) (l' := ?hL86) rfl (by kernel_rfl) (by kernel_rfl) (by kernel_rfl) (fun _ _ _ h => h) (by rfl) (by assumption) ?ha86 ?hl86 ?hh86; (case ha86 => (simp only [Act.put, hq1, hq2, hq3, Option.isNone, Bool.not_true, Bool.not_false]; (try with_reducible rfl))); (case hl86 => (simp only [Act.put, hq1, hq2, hq3, Option.isNone, Bool.not_true, Bool.not_false]; (try with_reducible rfl)))) | (refine held_take (i := 16) (v := ?hV86) (a' := ?hA86) (l' := ?hL86) rfl (by kernel_rfl) (by kernel_rfl) (by kernel_rfl) (fun _ _ _ h => h) (by rfl) ?hv86 (by assumption) ?ha86 ?hl86 ?hh86; (case hv86 => (intro w hSw; (try dsimp only at hSw); go_simp; (try simp only [run_eql_slice_nil _ 36 _ _ _ _ Try.underlying36, Result.andThen_ok]); (try with_reducible rfl))); (case ha86 => (simp only [Act.put, hq1, hq2, hq3, Option.isNone, Bool.not_true, Bool.not_false]; (try with_reducible rfl))); (case hl86 => (simp only [Act.put, hq1, hq2, hq3, Option.isNone, Bool.not_true, Bool.not_false]; (try with_reducible rfl))))))
            refine held_one (i := 17) rfl (by kernel_rfl) (fun K hK => ?_)
            go_simp
            go_at_call 16
            (with_reducible refine (AH.out _).mono ?_)
            rintro e w7 ⟨rfl, hf7⟩
            have hf67 : Fr wr w7 := Fr.trans (Below.refl _ _).drew hf7
            (refine held_back hK (a' := ?hA150) (l' := ?hL150) ?ha150 ?hl150 (hSC.out _ hf67) (fun hHeld => ?hh150); (case ha150 => first | with_reducible rfl | (simp only [Act.put, hq1, hq2, hq3, Option.isNone, Bool.not_true, Bool.not_false]; (try with_reducible rfl))); (case hl150 => (simp only [Act.put, hq1, hq2, hq3, Option.isNone, Bool.not_true, Bool.not_false]; (try with_reducible rfl))); clear hK K)
            ((first | (refine held_skip (i := 18) (a' := ?hA87) (l' := ?hL87) rfl (by kernel_rfl) (by kernel_rfl) (by kernel_rfl) (fun _ _ _ h => h) (by rfl) (by assumption) ?ha87 ?hl87 ?hh87; (case ha87 => (simp only [Act.put, hq1, hq2, hq3, Option.isNone, Bool.not_true, Bool.not_false]; (try with_reducible rfl))); (case hl87 => (simp only [Act.put, hq1, hq2, hq3, Option.isNone, Bool.not_true, Bool.not_false]; (try with_reducible rfl)))) | (refine held_take (i := 18) (v := ?hV87) (a' := ?hA87) (l' := ?hL87) rfl (by kernel_rfl) (by kernel_rfl) (by kernel_rfl) (fun _ _ _ h => h) (by rfl) ?hv87 (by assumption) ?ha87 ?hl87 ?hh87; (case hv87 => (intro w hSw; (try dsimp only at hSw); go_simp; (try simp only [run_eql_slice_nil _ 36 _ _ _ _ Try.underlying36, Result.andThen_ok]); (try with_reducible rfl))); (case ha87 => (simp only [Act.put, hq1, hq2, hq3, Option.isNone, Bool.not_true, Bool.not_false]; (try with_reducible rfl))); (case hl87 => (simp only [Act.put, hq1, hq2, hq3, Option.isNone, Bool.not_true, Bool.not_false]; (try with_reducible rfl))))))
            refine wpAnyH_done (by kernel_rfl) ?_ _
            have HF7 : Hid (Fr W2 w7) := HF.out.trans hf67
            clear hSC AH hHeld hf7 hf67
            cases ab with
            | true =>
              have HS2 : Hid (pa = k + 1 + ((p.keep.drop (k + 1)).takeWhile fun y => aheadB y.h h).length) := by rw [Hid, HS.out, placeAt_step HYY.out HAB.out.symm]; omega
              go_wp2_with fail
              go_roundw
              case rel => exact ⟨k + 1, by omega, by go_num, HS2, HF7⟩
              case measure => simp [intOf]; omega
            | false =>
              have hkp : pa = k := by rw [HS.out, placeAt_stop HYY.out HAB.out.symm]; omega
              subst hkp
              clear HAB HYY HS
              obtain ⟨W3, hW3⟩ : ∃ W3, W3 = w7 := ⟨_, rfl⟩
              have HF23 : Hid (Fr W2 W3) := by rw [hW3]; exact HF7.out
              rw [← hW3]
              clear hW3
              have HF3 : Hid (Fr w W3) := HF2.out.trans HF23.out
              have H3 : Hid (PlM W3 base pb p (some ad) c) := (H.out.fr HF3.out).plM
              have HQ3 := Lib.hid (blk_go HQ2.out HF23.out)
              have hbx := H3.out.blk
              rw [← HN.out] at hbx
              have hqx := HQ3.out
              (obtain ⟨bp0, bp1, bp2, bp3⟩ := box4_ hbx)
              (obtain ⟨bx0, bx1, bx2, bx3, bx4, bx5⟩ := box6_ hqx)
              have hSC : Hid (∀ w', Fr W3 w' → w'.cell? ⟨pb, 1, none⟩ = some (.slice (some ad) n c) ∧ w'.cell? ⟨q, 0, none⟩ = some (.int .i64 h.frm) ∧ w'.cell? ⟨q, 1, none⟩ = some (.int .i64 h.seq) ∧ w'.cell? ⟨q, 2, none⟩ = some (.int .i64 h.to) ∧ w'.cell? ⟨q, 3, none⟩ = some (.int .i64 h.till) ∧ w'.cell? ⟨q, 4, none⟩ = some (.int .i64 h.bytes) ∧ w'.cell? ⟨q, 5, none⟩ = some (.int .i64 h.block)) := fun w' hf => ⟨(hf.cell (World.block_lt_of_cell? W3 _ bp1)).trans bp1, (hf.cell (World.block_lt_of_cell? W3 _ bx0)).trans bx0, (hf.cell (World.block_lt_of_cell? W3 _ bx1)).trans bx1, (hf.cell (World.block_lt_of_cell? W3 _ bx2)).trans bx2, (hf.cell (World.block_lt_of_cell? W3 _ bx3)).trans bx3, (hf.cell (World.block_lt_of_cell? W3 _ bx4)).trans bx4, (hf.cell (World.block_lt_of_cell? W3 _ bx5)).trans bx5⟩
              clear hbx hqx bp0 bp1 bp2 bp3 bx0 bx1 bx2 bx3 bx4 bx5
              go_upto_region 15 with fail
              refine last_begin 12 (n := 13) (bs := #[false, false, false, false, false, false, false, false, false, false, false, false, false]) rfl rfl (by kernel_rfl) (S := fun w' => w'.cell? ⟨pb, 1, none⟩ = some (.slice (some ad) n c) ∧ w'.cell? ⟨q, 0, none⟩ = some (.int .i64 h.frm) ∧ w'.cell? ⟨q, 1, none⟩ = some (.int .i64 h.seq) ∧ w'.cell? ⟨q, 2, none⟩ = some (.int .i64 h.to) ∧ w'.cell? ⟨q, 3, none⟩ = some (.int .i64 h.till) ∧ w'.cell? ⟨q, 4, none⟩ = some (.int .i64 h.bytes) ∧ w'.cell? ⟨q, 5, none⟩ = some (.int .i64 h.block)) (hSC.out _ (Below.refl _ _).drew) (fun hHeld => ?_)
              ((first | (refine last_skip (i := 0) (a' := ?hA116) (l' := ?hL116) rfl (by kernel_rfl) (by kernel_rfl) (by kernel_rfl) (by kernel_rfl) (fun _ _ _ h => h) (by rfl) (by assumption) ?ha116 ?hl116 ?hh116; (case ha116 => (simp only [Act.put, hq1, hq2, hq3, Option.isNone, Bool.not_true, Bool.not_false]; (try with_reducible rfl))); (case hl116 => (simp only [Act.put, hq1, hq2, hq3, Option.isNone, Bool.not_true, Bool.not_false]; (try with_reducible rfl)))) | (refine last_take (i := 0) (v := ?hV116) (a' := ?hA116) (l' := ?hL116) rfl (by kernel_rfl) (by kernel_rfl) (by kernel_rfl) (by kernel_rfl) (fun _ _ _ h => h) (by rfl) ?hv116 (by assumption) ?ha116 ?hl116 ?hh116; (case hv116 => (intro w hSw; (try dsimp only at hSw); go_simp; (try simp only [run_eql_slice_nil _ 36 _ _ _ _ Try.underlying36, Result.andThen_ok]); (try with_reducible rfl))); (case ha116 => (simp only [Act.put, hq1, hq2, hq3, Option.isNone, Bool.not_true, Bool.not_false]; (try with_reducible rfl))); (case hl116 => (simp only [Act.put, hq1, hq2, hq3, Option.isNone, Bool.not_true, Bool.not_false]; (try with_reducible rfl))))); (first | (refine last_skip (i := 1) (a' := ?hA117) (l' := ?hL117) rfl (by kernel_rfl) (by kernel_rfl) (by kernel_rfl) (by kernel_rfl) (fun _ _ _ h => h) (by rfl) (by assumption) ?ha117 ?hl117 ?hh117; (case ha117 => (simp only [Act.put, hq1, hq2, hq3, Option.isNone, Bool.not_true, Bool.not_false]; (try with_reducible rfl))); (case hl117 => (simp only [Act.put, hq1, hq2, hq3, Option.isNone, Bool.not_true, Bool.not_false]; (try with_reducible rfl)))) | (refine last_take (i := 1) (v := ?hV117) (a' := ?hA117) (l' := ?hL117) rfl (by kernel_rfl) (by kernel_rfl) (by kernel_rfl) (by kernel_rfl) (fun _ _ _ h => h) (by rfl) ?hv117 (by assumption) ?ha117 ?hl117 ?hh117; (case hv117 => (intro w hSw; (try dsimp only at hSw); go_simp; (try simp only [run_eql_slice_nil _ 36 _ _ _ _ Try.underlying36, Result.andThen_ok]); (try with_reducible rfl))); (case ha117 => (simp only [Act.put, hq1, hq2, hq3, Option.isNone, Bool.not_true, Bool.not_false]; (try with_reducible rfl))); (case hl117 => (simp only [Act.put, hq1, hq2, hq3, Option.isNone, Bool.not_true, Bool.not_false]; (try with_reducible rfl))))); (first | (refine last_skip (i := 2) (a' := ?hA118) (l' := ?hL118) rfl (by kernel_rfl) (by kernel_rfl) (by kernel_rfl) (by kernel_rfl) (fun _ _ _ h => h) (by rfl) (by assumption) ?ha118 ?hl118 ?hh118; (case ha118 => (simp only [Act.put, hq1, hq2, hq3, Option.isNone, Bool.not_true, Bool.not_false]; (try with_reducible rfl))); (case hl118 => (simp only [Act.put, hq1, hq2, hq3, Option.isNone, Bool.not_true, Bool.not_false]; (try with_reducible rfl)))) | (refine last_take (i := 2) (v := ?hV118) (a' := ?hA118) (l' := ?hL118) rfl (by kernel_rfl) (by kernel_rfl) (by kernel_rfl) (by kernel_rfl) (fun _ _ _ h => h) (by rfl) ?hv118 (by assumption) ?ha118 ?hl118 ?hh118; (case hv118 => (intro w hSw; (try dsimp only at hSw); go_simp; (try simp only [run_eql_slice_nil _ 36 _ _ _ _ Try.underlying36, Result.andThen_ok]); (try with_reducible rfl))); (case ha118 => (simp only [Act.put, hq1, hq2, hq3, Option.isNone, Bool.not_true, Bool.not_false]; (try with_reducible rfl))); (case hl118 => (simp only [Act.put, hq1, hq2, hq3, Option.isNone, Bool.not_true, Bool.not_false]; (try with_reducible rfl))))); (first | (refine last_skip (i := 3) (a' := ?hA119) (l' := ?hL119) rfl (by kernel_rfl) (by kernel_rfl) (by kernel_rfl) (by kernel_rfl) (fun _ _ _ h => h) (by rfl) (by assumption) ?ha119 ?hl119 ?hh119; (case ha119 => (simp only [Act.put, hq1, hq2, hq3, Option.isNone, Bool.not_true, Bool.not_false]; (try with_reducible rfl))); (case hl119 => (simp only [Act.put, hq1, hq2, hq3, Option.isNone, Bool.not_true, Bool.not_false]; (try with_reducible rfl)))) | (refine last_take (i := 3) (v := ?hV119) (a' := ?hA119) (l' := ?hL119) rfl (by kernel_rfl) (by kernel_rfl) (by kernel_rfl) (by kernel_rfl) (fun _ _ _ h => h) (by rfl) ?hv119 (by assumption) ?ha119 ?hl119 ?hh119; (case hv119 => (intro w hSw; (try dsimp only at hSw); go_simp; (try simp only [run_eql_slice_nil _ 36 _ _ _ _ Try.underlying36, Result.andThen_ok]); (try with_reducible rfl))); (case ha119 => (simp only [Act.put, hq1, hq2, hq3, Option.isNone, Bool.not_true, Bool.not_false]; (try with_reducible rfl))); (case hl119 => (simp only [Act.put, hq1, hq2, hq3, Option.isNone, Bool.not_true, Bool.not_false]; (try with_reducible rfl))))); (first | (refine last_skip (i := 4) (a' := ?hA120) (l' := ?hL120) rfl (by kernel_rfl) (by kernel_rfl) (by kernel_rfl) (by kernel_rfl) (fun _ _ _ h => h) (by rfl) (by assumption) ?ha120 ?hl120 ?hh120; (case ha120 => (simp only [Act.put, hq1, hq2, hq3, Option.isNone, Bool.not_true, Bool.not_false]; (try with_reducible rfl))); (case hl120 => (simp only [Act.put, hq1, hq2, hq3, Option.isNone, Bool.not_true, Bool.not_false]; (try with_reducible rfl)))) | (refine last_take (i := 4) (v := ?hV120) (a' := ?hA120) (l' := ?hL120) rfl (by kernel_rfl) (by kernel_rfl) (by kernel_rfl) (by kernel_rfl) (fun _ _ _ h => h) (by rfl) ?hv120 (by assumption) ?ha120 ?hl120 ?hh120; (case hv120 => (intro w hSw; (try dsimp only at hSw); go_simp; (try simp only [run_eql_slice_nil _ 36 _ _ _ _ Try.underlying36, Result.andThen_ok]); (try with_reducible rfl))); (case ha120 => (simp only [Act.put, hq1, hq2, hq3, Option.isNone, Bool.not_true, Bool.not_false]; (try with_reducible rfl))); (case hl120 => (simp only [Act.put, hq1, hq2, hq3, Option.isNone, Bool.not_true, Bool.not_false]; (try with_reducible rfl))))); (first | (refine last_skip (i := 5) (a' := ?hA121) (l' := ?hL121) rfl (by kernel_rfl) (by kernel_rfl) (by kernel_rfl) (by kernel_rfl) (fun _ _ _ h => h) (by rfl) (by assumption) ?ha121 ?hl121 ?hh121; (case ha121 => (simp only [Act.put, hq1, hq2, hq3, Option.isNone, Bool.not_true, Bool.not_false]; (try with_reducible rfl))); (case hl121 => (simp only [Act.put, hq1, hq2, hq3, Option.isNone, Bool.not_true, Bool.not_false]; (try with_reducible rfl)))) | (refine last_take (i := 5) (v := ?hV121) (a' := ?hA121) (l' := ?hL121) rfl (by kernel_rfl) (by kernel_rfl) (by kernel_rfl) (by kernel_rfl) (fun _ _ _ h => h) (by rfl) ?hv121 (by assumption) ?ha121 ?hl121 ?hh121; (case hv121 => (intro w hSw; (try dsimp only at hSw); go_simp; (try simp only [run_eql_slice_nil _ 36 _ _ _ _ Try.underlying36, Result.andThen_ok]); (try with_reducible rfl))); (case ha121 => (simp only [Act.put, hq1, hq2, hq3, Option.isNone, Bool.not_true, Bool.not_false]; (try with_reducible rfl))); (case hl121 => (simp only [Act.put, hq1, hq2, hq3, Option.isNone, Bool.not_true, Bool.not_false]; (try with_reducible rfl))))); (first | (refine last_skip (i := 6) (a' := ?hA122) (l' := ?hL122) rfl (by kernel_rfl) (by kernel_rfl) (by kernel_rfl) (by kernel_rfl) (fun _ _ _ h => h) (by rfl) (by assumption) ?ha122 ?hl122 ?hh122; (case ha122 => (simp only [Act.put, hq1, hq2, hq3, Option.isNone, Bool.not_true, Bool.not_false]; (try with_reducible rfl))); (case hl122 => (simp only [Act.put, hq1, hq2, hq3, Option.isNone, Bool.not_true, Bool.not_false]; (try with_reducible rfl)))) | (refine last_take (i := 6) (v := ?hV122) (a' := ?hA122) (l' := ?hL122) rfl (by kernel_rfl) (by kernel_rfl) (by kernel_rfl) (by kernel_rfl) (fun _ _ _ h => h) (by rfl) ?hv122 (by assumption) ?ha122 ?hl122 ?hh122; (case hv122 => (intro w hSw; (try dsimp only at hSw); go_simp; (try simp only [run_eql_slice_nil _ 36 _ _ _ _ Try.underlying36, Result.andThen_ok]); (try with_reducible rfl))); (case ha122 => (simp only [Act.put, hq1, hq2, hq3, Option.isNone, Bool.not_true, Bool.not_false]; (try with_reducible rfl))); (case hl122 => (simp only [Act.put, hq1, hq2, hq3, Option.isNone, Bool.not_true, Bool.not_false]; (try with_reducible rfl))))); (first | (refine last_skip (i := 7) (a' := ?hA123) (l' := ?hL123) rfl (by kernel_rfl) (by kernel_rfl) (by kernel_rfl) (by kernel_rfl) (fun _ _ _ h => h) (by rfl) (by assumption) ?ha123 ?hl123 ?hh123; (case ha123 => (simp only [Act.put, hq1, hq2, hq3, Option.isNone, Bool.not_true, Bool.not_false]; (try with_reducible rfl))); (case hl123 => (simp only [Act.put, hq1, hq2, hq3, Option.isNone, Bool.not_true, Bool.not_false]; (try with_reducible rfl)))) | (refine last_take (i := 7) (v := ?hV123) (a' := ?hA123) (l' := ?hL123) rfl (by kernel_rfl) (by kernel_rfl) (by kernel_rfl) (by kernel_rfl) (fun _ _ _ h => h) (by rfl) ?hv123 (by assumption) ?ha123 ?hl123 ?hh123; (case hv123 => (intro w hSw; (try dsimp only at hSw); go_simp; (try simp only [run_eql_slice_nil _ 36 _ _ _ _ Try.underlying36, Result.andThen_ok]); (try with_reducible rfl))); (case ha123 => (simp only [Act.put, hq1, hq2, hq3, Option.isNone, Bool.not_true, Bool.not_false]; (try with_reducible rfl))); (case hl123 => (simp only [Act.put, hq1, hq2, hq3, Option.isNone, Bool.not_true, Bool.not_false]; (try with_reducible rfl))))))
              refine last_one (i := 8) rfl (by kernel_rfl) (fun K hK => ?_)
              go_simp
              have HF5 : Hid (Fr W3 W3.drew) := (Below.refl _ _).drew
              obtain ⟨W6, hW6⟩ : ∃ W6, W6 = (W3.alloc (.cells #[.int .i64 h.frm, .int .i64 h.seq, .int .i64 h.to, .int .i64 h.till, .int .i64 h.bytes, .int .i64 h.block, .bool false, .slice none 0 0, .slice none 0 0, .int .i64 0, .int .i64 0, .int .i64 0, .int .i64 0, .slice none 0 0, .bool false, .bool false] 46)).drew := ⟨_, rfl⟩
              obtain ⟨vb, hvb⟩ : ∃ vb, vb = W3.heap.size := ⟨_, rfl⟩
              have HV6 : Hid (W6.heap[vb]? = some (.cells (kpCells (Kp.fresh h) none 0 0 (.slice none 0 0) (.slice none 0 0)).toArray 46 (0, 0))) := by rw [hW6]; exact heap_d (heap_new hvb)
              have HF36 : Hid (Fr W3 W6) := by rw [hW6]; exact (frAlloc _ _).drew
              have H6 : Hid (PlM W6 base pb p (some ad) c) := H3.out.fr HF36.out
              have HO6 : Hid (Own 16 (eHi base eKq) W6 base 46 (.slice (some ad) n c) (p.keep.map fun x => (false, x))) := by
                have := H6.out.own.toQ
                rw [← HN.out] at this
                exact this
              have HX6 : Hid (eHi base eKq W6 (fun b => b < W6.heap.size ∧ (Value.slice (some ad) n c).ownBlock ≠ some b) (fun j => (kpCells (Kp.fresh h) none 0 0 (.slice none 0 0) (.slice none 0 0))[j]?) (true, Kp.fresh h)) := by
                have w0 : wfI 0 := wfI.mk (by decide)
                exact ⟨eKp_iff.2 ⟨none, 0, 0, none, 0, 0, none, 0, 0, ⟨rfl, rfl, rfl, rfl, rfl, rfl, rfl, rfl, rfl, rfl, rfl, rfl, rfl, rfl, rfl, rfl⟩, ⟨hwh, w0, w0, w0, w0⟩, ⟨⟨by unfold lim; omega, by omega, by unfold maxLen; omega⟩, Sl.nil⟩, ⟨⟨by unfold lim; omega, by omega, by unfold maxLen; omega⟩, Sl.nil⟩, ⟨by unfold lim; omega, by omega, by unfold maxLen; omega⟩, Sl.nil⟩, fun e => ⟨rfl, rfl, rfl⟩⟩
              rw [← hW6, ← hvb]
              have HVB := Lib.hid hvb
              clear hW6 hvb
              (refine last_back hK (a' := ?hA142) (l' := ?hL142) ?ha142 ?hl142 (hSC.out _ HF36.out) (fun hHeld => ?hh142); (case ha142 => first | with_reducible rfl | (simp only [Act.put, hq1, hq2, hq3, Option.isNone, Bool.not_true, Bool.not_false]; (try with_reducible rfl))); (case hl142 => (simp only [Act.put, hq1, hq2, hq3, Option.isNone, Bool.not_true, Bool.not_false]; (try with_reducible rfl))); clear hK K)
              refine last_one (i := 9) rfl (by kernel_rfl) (fun K hK => ?_)
              go_simp
              go_at_call 41
              with_reducible refine (insertKepts_own (N := base) W6 base pa vb (.slice (some ad) n c) (p.keep.map fun x => (false, x)) (true, Kp.fresh h) (kpCells (Kp.fresh h) none 0 0 (.slice none 0 0) (.slice none 0 0)) 46 HO6.out (by rw [List.length_map, ← HN.out]; omega) HV6.out (fun e => by have := (HO6.out.ge e).2; have h1 := H3.out.own; rw [← HN.out] at h1; have := (h1.ge e).2; have := HVB.out; omega) rfl (by simp [kpCells, Value.oneCell']) HX6.out (by rw [List.length_map, ← HN.out]; unfold lim; omega) (by have := HF3.out.size; have := HF36.out.size; omega)).mono ?_
              rintro e w7 ⟨v7, rfl, ho7, hg7⟩
              have hno : ∀ b, (Value.slice (some ad) n c).ownBlock = some b → base ≤ b ∧ b < w.heap.size := fun b hb => by
                have h1 := H.out.plM.own
                rw [← HN.out] at h1
                exact h1.ge hb
              have hk7 : Chg (fun b => (Value.slice (some ad) n c).ownBlock = some b) W6 w7 := ⟨hg7.os, hg7.tape, hg7.output, hg7.size, fun b hb hs => hg7.block b hb fun e => hs e.symm⟩
              have hno1 : ¬ (Value.slice (some ad) n c).ownBlock = some pb := fun e => by have := hno _ e; omega
              have hno2 : ¬ (Value.slice (some ad) n c).ownBlock = some q := fun e => by have := hno _ e; have := HQW.out; omega
              have hS7 : w7.cell? ⟨pb, 1, none⟩ = some (.slice (some ad) n c) ∧ w7.cell? ⟨q, 0, none⟩ = some (.int .i64 h.frm) ∧ w7.cell? ⟨q, 1, none⟩ = some (.int .i64 h.seq) ∧ w7.cell? ⟨q, 2, none⟩ = some (.int .i64 h.to) ∧ w7.cell? ⟨q, 3, none⟩ = some (.int .i64 h.till) ∧ w7.cell? ⟨q, 4, none⟩ = some (.int .i64 h.bytes) ∧ w7.cell? ⟨q, 5, none⟩ = some (.int .i64 h.block) := by
                obtain ⟨k1, k2, k3, k4, k5, k6, k7⟩ := hSC.out _ HF36.out
                exact ⟨(hk7.cell (World.block_lt_of_cell? W6 _ k1) hno1).trans k1, (hk7.cell (World.block_lt_of_cell? W6 _ k2) hno2).trans k2, (hk7.cell (World.block_lt_of_cell? W6 _ k3) hno2).trans k3, (hk7.cell (World.block_lt_of_cell? W6 _ k4) hno2).trans k4, (hk7.cell (World.block_lt_of_cell? W6 _ k5) hno2).trans k5, (hk7.cell (World.block_lt_of_cell? W6 _ k6) hno2).trans k6, (hk7.cell (World.block_lt_of_cell? W6 _ k7) hno2).trans k7⟩
              have hb7 := hk7.blk H6.out.blk hno1
              rw [← HN.out] at hb7
              have hlk : (List.take pa (p.keep.map fun x => (false, x))).length = pa := by rw [List.length_take, List.length_map, ← HN.out]; omega
              have e1 : (List.take pa (p.keep.map fun x => (false, x)) ++ (true, Kp.fresh h) :: List.drop pa (p.keep.map fun x => (false, x))).map (·.2) = insKp p.keep (Kp.fresh h) := by
                unfold insKp
                rw [show placeAt p.keep (Kp.fresh h).h = pa from Hpa.out.symm]
                simp [List.map_take, List.map_drop, List.map_map, Function.comp_def]
              obtain ⟨g7, cap7, T7, rfl, hF7, hT7⟩ := ho7.focNew2 (i := pa) (x := Kp.fresh h) (by rw [List.getElem?_append_right (by rw [hlk]; exact Nat.le_refl _), hlk, Nat.sub_self]; rfl) rfl rfl rfl
              have elen : (List.take pa (p.keep.map fun x => (false, x)) ++ (true, Kp.fresh h) :: List.drop pa (p.keep.map fun x => (false, x))).length = (insKp p.keep (Kp.fresh h)).length := by rw [← e1, List.length_map]
              rw [e1] at hF7
              rw [elen]
              have HF7 := Lib.hid hF7
              have HT7 := Lib.hid hT7
              have HK7 := Lib.hid hk7
              clear e1 elen hlk hF7 hT7
              obtain ⟨ln, hln⟩ : ∃ ln, ln = (insKp p.keep (Kp.fresh h)).length := ⟨_, rfl⟩
              rw [← hln]
              have HLN := Lib.hid hln
              clear hln
              (refine last_back hK (a' := ?hA143) (l' := ?hL143) ?ha143 ?hl143 (hS7) (fun hHeld => ?hh143); (case ha143 => first | with_reducible rfl | (simp only [Act.put, hq1, hq2, hq3, Option.isNone, Bool.not_true, Bool.not_false]; (try with_reducible rfl))); (case hl143 => (simp only [Act.put, hq1, hq2, hq3, Option.isNone, Bool.not_true, Bool.not_false]; (try with_reducible rfl))); clear hK K)
              refine last_one (i := 10) rfl (by kernel_rfl) (fun K hK => ?_)
              go_simp
              (refine last_back hK (a' := ?hA144) (l' := ?hL144) ?ha144 ?hl144 (hS7) (fun hHeld => ?hh144); (case ha144 => first | with_reducible rfl | (simp only [Act.put, hq1, hq2, hq3, Option.isNone, Bool.not_true, Bool.not_false]; (try with_reducible rfl))); (case hl144 => (simp only [Act.put, hq1, hq2, hq3, Option.isNone, Bool.not_true, Bool.not_false]; (try with_reducible rfl))); clear hK K)
              ((first | (refine last_skip (i := 11) (a' := ?hA124) (l' := ?hL124) rfl (by kernel_rfl) (by kernel_rfl) (by kernel_rfl) (by kernel_rfl) (fun _ _ _ h => h) (by rfl) (by assumption) ?ha124 ?hl124 ?hh124; (case ha124 => (simp only [Act.put, hq1, hq2, hq3, Option.isNone, Bool.not_true, Bool.not_false]; (try with_reducible rfl))); (case hl124 => (simp only [Act.put, hq1, hq2, hq3, Option.isNone, Bool.not_true, Bool.not_false]; (try with_reducible rfl)))) | (refine last_take (i := 11) (v := ?hV124) (a' := ?hA124) (l' := ?hL124) rfl (by kernel_rfl) (by kernel_rfl) (by kernel_rfl) (by kernel_rfl) (fun _ _ _ h => h) (by rfl) ?hv124 (by assumption) ?ha124 ?hl124 ?hh124; (case hv124 => (intro w hSw; (try dsimp only at hSw); go_simp; (try simp only [run_eql_slice_nil _ 36 _ _ _ _ Try.underlying36, Result.andThen_ok]); (try with_reducible rfl))); (case ha124 => (simp only [Act.put, hq1, hq2, hq3, Option.isNone, Bool.not_true, Bool.not_false]; (try with_reducible rfl))); (case hl124 => (simp only [Act.put, hq1, hq2, hq3, Option.isNone, Bool.not_true, Bool.not_false]; (try with_reducible rfl))))))
              have y1 := blk_free (i := 1) hb7
              have hpl7 := (Array.getElem?_eq_some_iff.1 hb7).1
              have mp1 := hS7.1
              refine last_one (i := 12) rfl (by kernel_rfl) (fun K hK => ?_)
              go_simp
              refine last_end hK (by kernel_rfl) ?_
              clear hK K
              obtain ⟨W8, hW8⟩ : ∃ W8, W8 = w7.setCell ⟨pb, 1, none⟩ (.slice (some ⟨g7, 0, none⟩) ln cap7) := ⟨_, rfl⟩
              have hb8 : W8.heap[pb]? = some (.cells #[.int .i64 p.me, .slice (some ⟨g7, 0, none⟩) ln cap7, .int .i64 p.time, .int .i64 p.seq] 25 (0, 0)) := by rw [hW8]; have := heap_setCell_same w7 pb 1 _ _ (.slice (some ⟨g7, 0, none⟩) ln cap7) hb7; simpa using this
              have hk8 : Chg (fun b => b = pb) w7 W8 := by rw [hW8]; exact Chg.set (S := fun b => b = pb) (p := ⟨pb, 1, none⟩) (Chg.refl _ _) rfl _
              rw [← hW8]
              (obtain ⟨bp0, bp1, bp2, bp3⟩ := box4_ hb8)
              have hil : pa < ln := by rw [HLN.out]; exact HF7.out.hi
              have HX8 : Hid (Foc0 T7 W8 base g7 cap7 (insKp p.keep (Kp.fresh h)) pa (Kp.fresh h) none 0 0 (.slice none 0 0) (.slice none 0 0)) :=
                ⟨HF7.out.chg hk8 (by have := HF7.out.hbg; omega) (fun b hb => by have := (HF7.out.low b hb).1; omega) (fun b e => (by cases e)) (fun b e => (by cases e)), fun b _ => ⟨fun e => (by cases e), fun e => (by cases e)⟩, fun b e => (by cases e), fun b hb => HT7.out b (Nat.le_trans hk8.size hb)⟩
              have HC8 : Hid (Chg (BunS pb (.slice (some ad) p.keep.length c)) w W8) := by
                rw [← HN.out]
                have q1 : Chg (BunS pb (.slice (some ad) n c)) w W6 := (HF3.out.trans HF36.out).chg
                have q2 : Chg (BunS pb (.slice (some ad) n c)) W6 w7 := HK7.out.more fun b hb => .inr hb
                exact (q1.trans q2).trans (hk8.more fun b hb => .inl hb)
              have HB8 := Lib.hid hb8
              clear hb7 hb8 hk8 hk7 hW8 hS7 y1 hpl7 mp1 hno hno1 hno2 hSC
              go_wp2_with fail
              go_ret2
              refine .inr ⟨insKp p.keep (Kp.fresh h), pa, Kp.fresh h, g7, cap7, none, 0, 0, .slice none 0 0, .slice none 0 0, T7, by rw [E6.out, Hpa.out], rfl, HC8.out, by rw [← HLN.out]; exact HB8.out, HX8.out⟩
          · have hkn : k = n := by omega
            have hkp : pa = k := by rw [HS.out, List.drop_eq_nil_of_le (by rw [← HN.out]; omega)]; simp
            subst hkp
            have tk : decide ((pa : Int) < (n : Int)) = false := by simp; omega
            clear hkn HS
            go_upto_region 13 with fail
            go_quiet (fail)
            obtain ⟨W3, hW3⟩ : ∃ W3, W3 = (wr.drewN nq) := ⟨_, rfl⟩
            have HF23 : Hid (Fr W2 W3) := by rw [hW3]; exact (by (repeat' (first | exact Below.refl _ _ | refine below_drewN ?_ _ | refine Below.drew ?_ | refine frA ?_ _ | refine Fr.trans ?_ HF.out)))
            rw [← hW3]
            clear hW3
            have HF3 : Hid (Fr w W3) := HF2.out.trans HF23.out
            have H3 : Hid (PlM W3 base pb p A c) := (H.out.fr HF3.out).plM
            have HQ3 := Lib.hid (blk_go HQ2.out HF23.out)
            have hbx := H3.out.blk
            rw [← HN.out] at hbx
            have hqx := HQ3.out
            (obtain ⟨bp0, bp1, bp2, bp3⟩ := box4_ hbx)
            (obtain ⟨bx0, bx1, bx2, bx3, bx4, bx5⟩ := box6_ hqx)
            have hSC : Hid (∀ w', Fr W3 w' → w'.cell? ⟨pb, 1, none⟩ = some (.slice A n c) ∧ w'.cell? ⟨q, 0, none⟩ = some (.int .i64 h.frm) ∧ w'.cell? ⟨q, 1, none⟩ = some (.int .i64 h.seq) ∧ w'.cell? ⟨q, 2, none⟩ = some (.int .i64 h.to) ∧ w'.cell? ⟨q, 3, none⟩ = some (.int .i64 h.till) ∧ w'.cell? ⟨q, 4, none⟩ = some (.int .i64 h.bytes) ∧ w'.cell? ⟨q, 5, none⟩ = some (.int .i64 h.block)) := fun w' hf => ⟨(hf.cell (World.block_lt_of_cell? W3 _ bp1)).trans bp1, (hf.cell (World.block_lt_of_cell? W3 _ bx0)).trans bx0, (hf.cell (World.block_lt_of_cell? W3 _ bx1)).trans bx1, (hf.cell (World.block_lt_of_cell? W3 _ bx2)).trans bx2, (hf.cell (World.block_lt_of_cell? W3 _ bx3)).trans bx3, (hf.cell (World.block_lt_of_cell? W3 _ bx4)).trans bx4, (hf.cell (World.block_lt_of_cell? W3 _ bx5)).trans bx5⟩
            clear hbx hqx bp0 bp1 bp2 bp3 bx0 bx1 bx2 bx3 bx4 bx5
            go_upto_region 15 with fail
            refine last_begin 12 (n := 13) (bs := #[false, false, false, false, false, false, false, false, false, false, false, false, false]) rfl rfl (by kernel_rfl) (S := fun w' => w'.cell? ⟨pb, 1, none⟩ = some (.slice A n c) ∧ w'.cell? ⟨q, 0, none⟩ = some (.int .i64 h.frm) ∧ w'.cell? ⟨q, 1, none⟩ = some (.int .i64 h.seq) ∧ w'.cell? ⟨q, 2, none⟩ = some (.int .i64 h.to) ∧ w'.cell? ⟨q, 3, none⟩ = some (.int .i64 h.till) ∧ w'.cell? ⟨q, 4, none⟩ = some (.int .i64 h.bytes) ∧ w'.cell? ⟨q, 5, none⟩ = some (.int .i64 h.block)) (hSC.out _ (Below.refl _ _).drew) (fun hHeld => ?_)
            ((first | (refine last_skip (i := 0) (a' := ?hA125) (l' := ?hL125) rfl (by kernel_rfl) (by kernel_rfl) (by kernel_rfl) (by kernel_rfl) (fun _ _ _ h => h) (by rfl) (by assumption) ?ha125 ?hl125 ?hh125; (case ha125 => (simp only [Act.put, hq1, hq2, hq3, Option.isNone, Bool.not_true, Bool.not_false]; (try with_reducible rfl))); (case hl125 => (simp only [Act.put, hq1, hq2, hq3, Option.isNone, Bool.not_true, Bool.not_false]; (try with_reducible rfl)))) | (refine last_take (i := 0) (v := ?hV125) (a' := ?hA125) (l' := ?hL125) rfl (by kernel_rfl) (by kernel_rfl) (by kernel_rfl) (by kernel_rfl) (fun _ _ _ h => h) (by rfl) ?hv125 (by assumption) ?ha125 ?hl125 ?hh125; (case hv125 => (intro w hSw; (try dsimp only at hSw); go_simp; (try simp only [run_eql_slice_nil _ 36 _ _ _ _ Try.underlying36, Result.andThen_ok]); (try with_reducible rfl))); (case ha125 => (simp only [Act.put, hq1, hq2, hq3, Option.isNone, Bool.not_true, Bool.not_false]; (try with_reducible rfl))); (case hl125 => (simp only [Act.put, hq1, hq2, hq3, Option.isNone, Bool.not_true, Bool.not_false]; (try with_reducible rfl))))); (first | (refine last_skip (i := 1) (a' := ?hA126) (l' := ?hL126) rfl (by kernel_rfl) (by kernel_rfl) (by kernel_rfl) (by kernel_rfl) (fun _ _ _ h => h) (by rfl) (by assumption) ?ha126 ?hl126 ?hh126; (case ha126 => (simp only [Act.put, hq1, hq2, hq3, Option.isNone, Bool.not_true, Bool.not_false]; (try with_reducible rfl))); (case hl126 => (simp only [Act.put, hq1, hq2, hq3, Option.isNone, Bool.not_true, Bool.not_false]; (try with_reducible rfl)))) | (refine last_take (i := 1) (v := ?hV126) (a' := ?hA126) (l' := ?hL126) rfl (by kernel_rfl) (by kernel_rfl) (by kernel_rfl) (by kernel_rfl) (fun _ _ _ h => h) (by rfl) ?hv126 (by assumption) ?ha126 ?hl126 ?hh126; (case hv126 => (intro w hSw; (try dsimp only at hSw); go_simp; (try simp only [run_eql_slice_nil _ 36 _ _ _ _ Try.underlying36, Result.andThen_ok]); (try with_reducible rfl))); (case ha126 => (simp only [Act.put, hq1, hq2, hq3, Option.isNone, Bool.not_true, Bool.not_false]; (try with_reducible rfl))); (case hl126 => (simp only [Act.put, hq1, hq2, hq3, Option.isNone, Bool.not_true, Bool.not_false]; (try with_reducible rfl))))); (first | (refine last_skip (i := 2) (a' := ?hA127) (l' := ?hL127) rfl (by kernel_rfl) (by kernel_rfl) (by kernel_rfl) (by kernel_rfl) (fun _ _ _ h => h) (by rfl) (by assumption) ?ha127 ?hl127 ?hh127; (case ha127 => (simp only [Act.put, hq1, hq2, hq3, Option.isNone, Bool.not_true, Bool.not_false]; (try with_reducible rfl))); (case hl127 => (simp only [Act.put, hq1, hq2, hq3, Option.isNone, Bool.not_true, Bool.not_false]; (try with_reducible rfl)))) | (refine last_take (i := 2) (v := ?hV127) (a' := ?hA127) (l' := ?hL127) rfl (by kernel_rfl) (by kernel_rfl) (by kernel_rfl) (by kernel_rfl) (fun _ _ _ h => h) (by rfl) ?hv127 (by assumption) ?ha127 ?hl127 ?hh127; (case hv127 => (intro w hSw; (try dsimp only at hSw); go_simp; (try simp only [run_eql_slice_nil _ 36 _ _ _ _ Try.underlying36, Result.andThen_ok]); (try with_reducible rfl))); (case ha127 => (simp only [Act.put, hq1, hq2, hq3, Option.isNone, Bool.not_true, Bool.not_false]; (try with_reducible rfl))); (case hl127 => (simp only [Act.put, hq1, hq2, hq3, Option.isNone, Bool.not_true, Bool.not_false]; (try with_reducible rfl))))); (first | (refine last_skip (i := 3) (a' := ?hA128) (l' := ?hL128) rfl (by kernel_rfl) (by kernel_rfl) (by kernel_rfl) (by kernel_rfl) (fun _ _ _ h => h) (by rfl) (by assumption) ?ha128 ?hl128 ?hh128; (case ha128 => (simp only [Act.put, hq1, hq2, hq3, Option.isNone, Bool.not_true, Bool.not_false]; (try with_reducible rfl))); (case hl128 => (simp only [Act.put, hq1, hq2, hq3, Option.isNone, Bool.not_true, Bool.not_false]; (try with_reducible rfl)))) | (refine last_take (i := 3) (v := ?hV128) (a' := ?hA128) (l' := ?hL128) rfl (by kernel_rfl) (by kernel_rfl) (by kernel_rfl) (by kernel_rfl) (fun _ _ _ h => h) (by rfl) ?hv128 (by assumption) ?ha128 ?hl128 ?hh128; (case hv128 => (intro w hSw; (try dsimp only at hSw); go_simp; (try simp only [run_eql_slice_nil _ 36 _ _ _ _ Try.underlying36, Result.andThen_ok]); (try with_reducible rfl))); (case ha128 => (simp only [Act.put, hq1, hq2, hq3, Option.isNone, Bool.not_true, Bool.not_false]; (try with_reducible rfl))); (case hl128 => (simp only [Act.put, hq1, hq2, hq3, Option.isNone, Bool.not_true, Bool.not_false]; (try with_reducible rfl))))); (first | (refine last_skip (i := 4) (a' := ?hA129) (l' := ?hL129) rfl (by kernel_rfl) (by kernel_rfl) (by kernel_rfl) (by kernel_rfl) (fun _ _ _ h => h) (by rfl) (by assumption) ?ha129 ?hl129 ?hh129; (case ha129 => (simp only [Act.put, hq1, hq2, hq3, Option.isNone, Bool.not_true, Bool.not_false]; (try with_reducible rfl))); (case hl129 => (simp only [Act.put, hq1, hq2, hq3, Option.isNone, Bool.not_true, Bool.not_false]; (try with_reducible rfl)))) | (refine last_take (i := 4) (v := ?hV129) (a' := ?hA129) (l' := ?hL129) rfl (by kernel_rfl) (by kernel_rfl) (by kernel_rfl) (by kernel_rfl) (fun _ _ _ h => h) (by rfl) ?hv129 (by assumption) ?ha129 ?hl129 ?hh129; (case hv129 => (intro w hSw; (try dsimp only at hSw); go_simp; (try simp only [run_eql_slice_nil _ 36 _ _ _ _ Try.underlying36, Result.andThen_ok]); (try with_reducible rfl))); (case ha129 => (simp only [Act.put, hq1, hq2, hq3, Option.isNone, Bool.not_true, Bool.not_false]; (try with_reducible rfl))); (case hl129 => (simp only [Act.put, hq1, hq2, hq3, Option.isNone, Bool.not_true, Bool.not_false]; (try with_reducible rfl))))); (first | (refine last_skip (i := 5) (a' := ?hA130) (l' := ?hL130) rfl (by kernel_rfl) (by kernel_rfl) (by kernel_rfl) (by kernel_rfl) (fun _ _ _ h => h) (by rfl) (by assumption) ?ha130 ?hl130 ?hh130; (case ha130 => (simp only [Act.put, hq1, hq2, hq3, Option.isNone, Bool.not_true, Bool.not_false]; (try with_reducible rfl))); (case hl130 => (simp only [Act.put, hq1, hq2, hq3, Option.isNone, Bool.not_true, Bool.not_false]; (try with_reducible rfl)))) | (refine last_take (i := 5) (v := ?hV130) (a' := ?hA130) (l' := ?hL130) rfl (by kernel_rfl) (by kernel_rfl) (by kernel_rfl) (by kernel_rfl) (fun _ _ _ h => h) (by rfl) ?hv130 (by assumption) ?ha130 ?hl130 ?hh130; (case hv130 => (intro w hSw; (try dsimp only at hSw); go_simp; (try simp only [run_eql_slice_nil _ 36 _ _ _ _ Try.underlying36, Result.andThen_ok]); (try with_reducible rfl))); (case ha130 => (simp only [Act.put, hq1, hq2, hq3, Option.isNone, Bool.not_true, Bool.not_false]; (try with_reducible rfl))); (case hl130 => (simp only [Act.put, hq1, hq2, hq3, Option.isNone, Bool.not_true, Bool.not_false]; (try with_reducible rfl))))); (first | (refine last_skip (i := 6) (a' := ?hA131) (l' := ?hL131) rfl (by kernel_rfl) (by kernel_rfl) (by kernel_rfl) (by kernel_rfl) (fun _ _ _ h => h) (by rfl) (by assumption) ?ha131 ?hl131 ?hh131; (case ha131 => (simp only [Act.put, hq1, hq2, hq3, Option.isNone, Bool.not_true, Bool.not_false]; (try with_reducible rfl))); (case hl131 => (simp only [Act.put, hq1, hq2, hq3, Option.isNone, Bool.not_true, Bool.not_false]; (try with_reducible rfl)))) | (refine last_take (i := 6) (v := ?hV131) (a' := ?hA131) (l' := ?hL131) rfl (by kernel_rfl) (by kernel_rfl) (by kernel_rfl) (by kernel_rfl) (fun _ _ _ h => h) (by rfl) ?hv131 (by assumption) ?ha131 ?hl131 ?hh131; (case hv131 => (intro w hSw; (try dsimp only at hSw); go_simp; (try simp only [run_eql_slice_nil _ 36 _ _ _ _ Try.underlying36, Result.andThen_ok]); (try with_reducible rfl))); (case ha131 => (simp only [Act.put, hq1, hq2, hq3, Option.isNone, Bool.not_true, Bool.not_false]; (try with_reducible rfl))); (case hl131 => (simp only [Act.put, hq1, hq2, hq3, Option.isNone, Bool.not_true, Bool.not_false]; (try with_reducible rfl))))); (first | (refine last_skip (i := 7) (a' := ?hA132) (l' := ?hL132) rfl (by kernel_rfl) (by kernel_rfl) (by kernel_rfl) (by kernel_rfl) (fun _ _ _ h => h) (by rfl) (by assumption) ?ha132 ?hl132 ?hh132; (case ha132 => (simp only [Act.put, hq1, hq2, hq3, Option.isNone, Bool.not_true, Bool.not_false]; (try with_reducible rfl))); (case hl132 => (simp only [Act.put, hq1, hq2, hq3, Option.isNone, Bool.not_true, Bool.not_false]; (try with_reducible rfl)))) | (refine last_take (i := 7) (v := ?hV132) (a' := ?hA132) (l' := ?hL132) rfl (by kernel_rfl) (by kernel_rfl) (by kernel_rfl) (by kernel_rfl) (fun _ _ _ h => h) (by rfl) ?hv132 (by assumption) ?ha132 ?hl132 ?hh132; (case hv132 => (intro w hSw; (try dsimp only at hSw); go_simp; (try simp only [run_eql_slice_nil _ 36 _ _ _ _ Try.underlying36, Result.andThen_ok]); (try with_reducible rfl))); (case ha132 => (simp only [Act.put, hq1, hq2, hq3, Option.isNone, Bool.not_true, Bool.not_false]; (try with_reducible rfl))); (case hl132 => (simp only [Act.put, hq1, hq2, hq3, Option.isNone, Bool.not_true, Bool.not_false]; (try with_reducible rfl))))))
            refine last_one (i := 8) rfl (by kernel_rfl) (fun K hK => ?_)
            go_simp
            have HF5 : Hid (Fr W3 W3.drew) := (Below.refl _ _).drew
            obtain ⟨W6, hW6⟩ : ∃ W6, W6 = (W3.alloc (.cells #[.int .i64 h.frm, .int .i64 h.seq, .int .i64 h.to, .int .i64 h.till, .int .i64 h.bytes, .int .i64 h.block, .bool false, .slice none 0 0, .slice none 0 0, .int .i64 0, .int .i64 0, .int .i64 0, .int .i64 0, .slice none 0 0, .bool false, .bool false] 46)).drew := ⟨_, rfl⟩
            obtain ⟨vb, hvb⟩ : ∃ vb, vb = W3.heap.size := ⟨_, rfl⟩
            have HV6 : Hid (W6.heap[vb]? = some (.cells (kpCells (Kp.fresh h) none 0 0 (.slice none 0 0) (.slice none 0 0)).toArray 46 (0, 0))) := by rw [hW6]; exact heap_d (heap_new hvb)
            have HF36 : Hid (Fr W3 W6) := by rw [hW6]; exact (frAlloc _ _).drew
            have H6 : Hid (PlM W6 base pb p A c) := H3.out.fr HF36.out
            have HO6 : Hid (Own 16 (eHi base eKq) W6 base 46 (.slice A n c) (p.keep.map fun x => (false, x))) := by
              have := H6.out.own.toQ
              rw [← HN.out] at this
              exact this
            have HX6 : Hid (eHi base eKq W6 (fun b => b < W6.heap.size ∧ (Value.slice A n c).ownBlock ≠ some b) (fun j => (kpCells (Kp.fresh h) none 0 0 (.slice none 0 0) (.slice none 0 0))[j]?) (true, Kp.fresh h)) := by
              have w0 : wfI 0 := wfI.mk (by decide)
              exact ⟨eKp_iff.2 ⟨none, 0, 0, none, 0, 0, none, 0, 0, ⟨rfl, rfl, rfl, rfl, rfl, rfl, rfl, rfl, rfl, rfl, rfl, rfl, rfl, rfl, rfl, rfl⟩, ⟨hwh, w0, w0, w0, w0⟩, ⟨⟨by unfold lim; omega, by omega, by unfold maxLen; omega⟩, Sl.nil⟩, ⟨⟨by unfold lim; omega, by omega, by unfold maxLen; omega⟩, Sl.nil⟩, ⟨by unfold lim; omega, by omega, by unfold maxLen; omega⟩, Sl.nil⟩, fun e => ⟨rfl, rfl, rfl⟩⟩
            rw [← hW6, ← hvb]
            have HVB := Lib.hid hvb
            clear hW6 hvb
            (refine last_back hK (a' := ?hA145) (l' := ?hL145) ?ha145 ?hl145 (hSC.out _ HF36.out) (fun hHeld => ?hh145); (case ha145 => first | with_reducible rfl | (simp only [Act.put, hq1, hq2, hq3, Option.isNone, Bool.not_true, Bool.not_false]; (try with_reducible rfl))); (case hl145 => (simp only [Act.put, hq1, hq2, hq3, Option.isNone, Bool.not_true, Bool.not_false]; (try with_reducible rfl))); clear hK K)
            refine last_one (i := 9) rfl (by kernel_rfl) (fun K hK => ?_)
            go_simp
            go_at_call 41
            with_reducible refine (insertKepts_own (N := base) W6 base pa vb (.slice A n c) (p.keep.map fun x => (false, x)) (true, Kp.fresh h) (kpCells (Kp.fresh h) none 0 0 (.slice none 0 0) (.slice none 0 0)) 46 HO6.out (by rw [List.length_map, ← HN.out]; omega) HV6.out (fun e => by have := (HO6.out.ge e).2; have h1 := H3.out.own; rw [← HN.out] at h1; have := (h1.ge e).2; have := HVB.out; omega) rfl (by simp [kpCells, Value.oneCell']) HX6.out (by rw [List.length_map, ← HN.out]; unfold lim; omega) (by have := HF3.out.size; have := HF36.out.size; omega)).mono ?_
            rintro e w7 ⟨v7, rfl, ho7, hg7⟩
            have hno : ∀ b, (Value.slice A n c).ownBlock = some b → base ≤ b ∧ b < w.heap.size := fun b hb => by
              have h1 := H.out.plM.own
              rw [← HN.out] at h1
              exact h1.ge hb
            have hk7 : Chg (fun b => (Value.slice A n c).ownBlock = some b) W6 w7 := ⟨hg7.os, hg7.tape, hg7.output, hg7.size, fun b hb hs => hg7.block b hb fun e => hs e.symm⟩
            have hno1 : ¬ (Value.slice A n c).ownBlock = some pb := fun e => by have := hno _ e; omega
            have hno2 : ¬ (Value.slice A n c).ownBlock = some q := fun e => by have := hno _ e; have := HQW.out; omega
            have hS7 : w7.cell? ⟨pb, 1, none⟩ = some (.slice A n c) ∧ w7.cell? ⟨q, 0, none⟩ = some (.int .i64 h.frm) ∧ w7.cell? ⟨q, 1, none⟩ = some (.int .i64 h.seq) ∧ w7.cell? ⟨q, 2, none⟩ = some (.int .i64 h.to) ∧ w7.cell? ⟨q, 3, none⟩ = some (.int .i64 h.till) ∧ w7.cell? ⟨q, 4, none⟩ = some (.int .i64 h.bytes) ∧ w7.cell? ⟨q, 5, none⟩ = some (.int .i64 h.block) := by
              obtain ⟨k1, k2, k3, k4, k5, k6, k7⟩ := hSC.out _ HF36.out
              exact ⟨(hk7.cell (World.block_lt_of_cell? W6 _ k1) hno1).trans k1, (hk7.cell (World.block_lt_of_cell? W6 _ k2) hno2).trans k2, (hk7.cell (World.block_lt_of_cell? W6 _ k3) hno2).trans k3, (hk7.cell (World.block_lt_of_cell? W6 _ k4) hno2).trans k4, (hk7.cell (World.block_lt_of_cell? W6 _ k5) hno2).trans k5, (hk7.cell (World.block_lt_of_cell? W6 _ k6) hno2).trans k6, (hk7.cell (World.block_lt_of_cell? W6 _ k7) hno2).trans k7⟩
            have hb7 := hk7.blk H6.out.blk hno1
            rw [← HN.out] at hb7
            have hlk : (List.take pa (p.keep.map fun x => (false, x))).length = pa := by rw [List.length_take, List.length_map, ← HN.out]; omega
            have e1 : (List.take pa (p.keep.map fun x => (false, x)) ++ (true, Kp.fresh h) :: List.drop pa (p.keep.map fun x => (false, x))).map (·.2) = insKp p.keep (Kp.fresh h) := by
              unfold insKp
              rw [show placeAt p.keep (Kp.fresh h).h = pa from Hpa.out.symm]
              simp [List.map_take, List.map_drop, List.map_map, Function.comp_def]
            obtain ⟨g7, cap7, T7, rfl, hF7, hT7⟩ := ho7.focNew2 (i := pa) (x := Kp.fresh h) (by rw [List.getElem?_append_right (by rw [hlk]; exact Nat.le_refl _), hlk, Nat.sub_self]; rfl) rfl rfl rfl
            have elen : (List.take pa (p.keep.map fun x => (false, x)) ++ (true, Kp.fresh h) :: List.drop pa (p.keep.map fun x => (false, x))).length = (insKp p.keep (Kp.fresh h)).length := by rw [← e1, List.length_map]
            rw [e1] at hF7
            rw [elen]
            have HF7 := Lib.hid hF7
            have HT7 := Lib.hid hT7
            have HK7 := Lib.hid hk7
            clear e1 elen hlk hF7 hT7
            obtain ⟨ln, hln⟩ : ∃ ln, ln = (insKp p.keep (Kp.fresh h)).length := ⟨_, rfl⟩
            rw [← hln]
            have HLN := Lib.hid hln
            clear hln
            (refine last_back hK (a' := ?hA146) (l' := ?hL146) ?ha146 ?hl146 (hS7) (fun hHeld => ?hh146); (case ha146 => first | with_reducible rfl | (simp only [Act.put, hq1, hq2, hq3, Option.isNone, Bool.not_true, Bool.not_false]; (try with_reducible rfl))); (case hl146 => (simp only [Act.put, hq1, hq2, hq3, Option.isNone, Bool.not_true, Bool.not_false]; (try with_reducible rfl))); clear hK K)
            refine last_one (i := 10) rfl (by kernel_rfl) (fun K hK => ?_)
            go_simp
            (refine last_back hK (a' := ?hA147) (l' := ?hL147) ?ha147 ?hl147 (hS7) (fun hHeld => ?hh147); (case ha147 => first | with_reducible rfl | (simp only [Act.put, hq1, hq2, hq3, Option.isNone, Bool.not_true, Bool.not_false]; (try with_reducible rfl))); (case hl147 => (simp only [Act.put, hq1, hq2, hq3, Option.isNone, Bool.not_true, Bool.not_false]; (try with_reducible rfl))); clear hK K)
            ((first | (refine last_skip (i := 11) (a' := ?hA133) (l' := ?hL133) rfl (by kernel_rfl) (by kernel_rfl) (by kernel_rfl) (by kernel_rfl) (fun _ _ _ h => h) (by rfl) (by assumption) ?ha133 ?hl133 ?hh133; (case ha133 => (simp only [Act.put, hq1, hq2, hq3, Option.isNone, Bool.not_true, Bool.not_false]; (try with_reducible rfl))); (case hl133 => (simp only [Act.put, hq1, hq2, hq3, Option.isNone, Bool.not_true, Bool.not_false]; (try with_reducible rfl)))) | (refine last_take (i := 11) (v := ?hV133) (a' := ?hA133) (l' := ?hL133) rfl (by kernel_rfl) (by kernel_rfl) (by kernel_rfl) (by kernel_rfl) (fun _ _ _ h => h) (by rfl) ?hv133 (by assumption) ?ha133 ?hl133 ?hh133; (case hv133 => (intro w hSw; (try dsimp only at hSw); go_simp; (try simp only [run_eql_slice_nil _ 36 _ _ _ _ Try.underlying36, Result.andThen_ok]); (try with_reducible rfl))); (case ha133 => (simp only [Act.put, hq1, hq2, hq3, Option.isNone, Bool.not_true, Bool.not_false]; (try with_reducible rfl))); (case hl133 => (simp only [Act.put, hq1, hq2, hq3, Option.isNone, Bool.not_true, Bool.not_false]; (try with_reducible rfl))))))
            have y1 := blk_free (i := 1) hb7
            have hpl7 := (Array.getElem?_eq_some_iff.1 hb7).1
            have mp1 := hS7.1
            refine last_one (i := 12) rfl (by kernel_rfl) (fun K hK => ?_)
            go_simp
            refine last_end hK (by kernel_rfl) ?_
            clear hK K
            obtain ⟨W8, hW8⟩ : ∃ W8, W8 = w7.setCell ⟨pb, 1, none⟩ (.slice (some ⟨g7, 0, none⟩) ln cap7) := ⟨_, rfl⟩
            have hb8 : W8.heap[pb]? = some (.cells #[.int .i64 p.me, .slice (some ⟨g7, 0, none⟩) ln cap7, .int .i64 p.time, .int .i64 p.seq] 25 (0, 0)) := by rw [hW8]; have := heap_setCell_same w7 pb 1 _ _ (.slice (some ⟨g7, 0, none⟩) ln cap7) hb7; simpa using this
            have hk8 : Chg (fun b => b = pb) w7 W8 := by rw [hW8]; exact Chg.set (S := fun b => b = pb) (p := ⟨pb, 1, none⟩) (Chg.refl _ _) rfl _
            rw [← hW8]
            (obtain ⟨bp0, bp1, bp2, bp3⟩ := box4_ hb8)
            have hil : pa < ln := by rw [HLN.out]; exact HF7.out.hi
            have HX8 : Hid (Foc0 T7 W8 base g7 cap7 (insKp p.keep (Kp.fresh h)) pa (Kp.fresh h) none 0 0 (.slice none 0 0) (.slice none 0 0)) :=
              ⟨HF7.out.chg hk8 (by have := HF7.out.hbg; omega) (fun b hb => by have := (HF7.out.low b hb).1; omega) (fun b e => (by cases e)) (fun b e => (by cases e)), fun b _ => ⟨fun e => (by cases e), fun e => (by cases e)⟩, fun b e => (by cases e), fun b hb => HT7.out b (Nat.le_trans hk8.size hb)⟩
            have HC8 : Hid (Chg (BunS pb (.slice A p.keep.length c)) w W8) := by
              rw [← HN.out]
              have q1 : Chg (BunS pb (.slice A n c)) w W6 := (HF3.out.trans HF36.out).chg
              have q2 : Chg (BunS pb (.slice A n c)) W6 w7 := HK7.out.more fun b hb => .inr hb
              exact (q1.trans q2).trans (hk8.more fun b hb => .inl hb)
            have HB8 := Lib.hid hb8
            clear hb7 hb8 hk8 hk7 hW8 hS7 y1 hpl7 mp1 hno hno1 hno2 hSC
            go_wp2_with fail
            go_ret2
            refine .inr ⟨insKp p.keep (Kp.fresh h), pa, Kp.fresh h, g7, cap7, none, 0, 0, .slice none 0 0, .slice none 0 0, T7, by rw [E6.out, Hpa.out], rfl, HC8.out, by rw [← HLN.out]; exact HB8.out, HX8.out⟩
end Go.Proofs.Ytojoodmnmhcojaa
