/- 'KeepParts' answers true for every input, and leaves its arguments as they were; the card: what the row lists is tied to the program's text. No condition. -/
import Derived.Test.YtmiaplgfbphfmaaGreatDoorMPB
import Derived.Test.YtmiaplgfbphfmaaGreatDoorMPQ
import Derived.Test.YtmiaplgfbphfmaaGreatDoorMPGH
import Derived.Test.YtmiaplgfbphfmaaGreatDoorMPS
import Derived.Test.YtmiaplgfbphfmaaGreatDoorMPE
import Derived.Test.YtmiaplgfbphfmaaGreatDoorMPO
import Derived.ProofKit
import Derived.OpenShut
set_option linter.unusedSimpArgs false
set_option linter.unusedVariables false
namespace Go.Proofs.YtmiaplgfbphfmaaGreatDoor
open Go.RowKit


theorem at_any (w : World) (k : Int) (n : Nat) (hn : 0 < n) (hn2 : n ≤ lim) : Calls Tryz.prog 16 #[.int .i64 k, .int .i64 n] w fun e w' => e = .returned (.int .i64 (k % (n : Int))) ∧ w = w' := by
  unfold lim at hn2
  have h0 : ((n : Int) == 0) = false := by rw [beq_eq_false_iff_ne]; omega
  have h1 := Int.emod_nonneg k (show (n : Int) ≠ 0 by omega)
  have h2 := Int.emod_lt_of_pos k (show (0 : Int) < n by omega)
  have h3 : k.tmod n = k % n ∨ (k.tmod n = k % n - n ∧ k % n ≠ 0) := by
    have e := Int.tmod_eq_emod (a := k) (b := (n : Int))
    split at e
    · left; omega
    · rename_i hd
      exact .inr ⟨by omega, fun h => hd (.inr (Int.dvd_of_emod_eq_zero h))⟩
  obtain ⟨q, hq⟩ : ∃ q, q = k % (n : Int) := ⟨_, rfl⟩
  rw [← hq] at h1 h2 h3
  rw [← hq]
  clear hq
  rcases h3 with h3 | ⟨h3, hq0⟩
  · have hlt : decide (q < 0) = false := by simp; omega
    go_enter Tryz.func16, Tryz.ntmps16
    go_wp2
    go_ret
    exact ⟨rfl, rfl⟩
  · have hlt : decide (q - (n : Int) < 0) = true := by simp; omega
    go_enter Tryz.func16, Tryz.ntmps16
    go_wp2
    go_ret
    exact ⟨retI (by omega), rfl⟩

end Go.Proofs.YtmiaplgfbphfmaaGreatDoor
namespace Go.Proofs.YtmiaplgfbphfmaaGreatDoor
open Go.RowKit
attribute [local irreducible] wpList

theorem DkAt.off {w : World} {p : Nat} {d : Dk} (h : DkAt w p d) : ∃ A n c B m e, w.heap[p]? = some (.cells #[.slice A n c, .slice B m e] 43 (0, 0)) ∧ Byt w (LT w.heap.size) A n c d.safe ∧ Byt w (LT w.heap.size) B m e d.wait := by
  obtain ⟨A, n, c, B, m, e, h1, h2, h3⟩ := h
  exact ⟨A, n, c, B, m, e, h1, byt_lt h2, byt_lt h3⟩
/-- The cells of a record. -/
theorem eRc_cs {w : World} {S : Nat → Prop} {q : Addr} {x : Rc} (h : eRc w S (fun j => w.cell? (q.add j)) x) : ∃ A n c A2 n2 c2, (∀ (j : Nat) v, ([.int .i64 x.kind, .int .i64 x.place, .int .i64 x.n, .int .i64 x.try_, .int .i64 x.h.frm, .int .i64 x.h.seq, .int .i64 x.h.to, .int .i64 x.h.till, .int .i64 x.h.bytes, .int .i64 x.h.block, .int .i64 x.s.id, .slice A n c, .slice A2 n2 c2] : List Value)[j]? = some v → w.cell? (q.add j) = some v) ∧ x.wf ∧ Byt w S A n c x.s.data ∧ Byt w S A2 n2 c2 x.cargo := by
  obtain ⟨A, n, c, A2, n2, c2, ⟨c0, c1, c2', c3, c4, c5, c6, c7, c8, c9, c10, c11, c12⟩, hr⟩ := eRc_iff.1 h
  refine ⟨A, n, c, A2, n2, c2, fun j v hv => ?_, hr⟩
  match j, hv with
  | 0, hv => simp only [List.getElem?_cons_succ, List.getElem?_cons_zero, Option.some.injEq] at hv; subst hv; exact c0
  | 1, hv => simp only [List.getElem?_cons_succ, List.getElem?_cons_zero, Option.some.injEq] at hv; subst hv; exact c1
  | 2, hv => simp only [List.getElem?_cons_succ, List.getElem?_cons_zero, Option.some.injEq] at hv; subst hv; exact c2'
  | 3, hv => simp only [List.getElem?_cons_succ, List.getElem?_cons_zero, Option.some.injEq] at hv; subst hv; exact c3
  | 4, hv => simp only [List.getElem?_cons_succ, List.getElem?_cons_zero, Option.some.injEq] at hv; subst hv; exact c4
  | 5, hv => simp only [List.getElem?_cons_succ, List.getElem?_cons_zero, Option.some.injEq] at hv; subst hv; exact c5
  | 6, hv => simp only [List.getElem?_cons_succ, List.getElem?_cons_zero, Option.some.injEq] at hv; subst hv; exact c6
  | 7, hv => simp only [List.getElem?_cons_succ, List.getElem?_cons_zero, Option.some.injEq] at hv; subst hv; exact c7
  | 8, hv => simp only [List.getElem?_cons_succ, List.getElem?_cons_zero, Option.some.injEq] at hv; subst hv; exact c8
  | 9, hv => simp only [List.getElem?_cons_succ, List.getElem?_cons_zero, Option.some.injEq] at hv; subst hv; exact c9
  | 10, hv => simp only [List.getElem?_cons_succ, List.getElem?_cons_zero, Option.some.injEq] at hv; subst hv; exact c10
  | 11, hv => simp only [List.getElem?_cons_succ, List.getElem?_cons_zero, Option.some.injEq] at hv; subst hv; exact c11
  | 12, hv => simp only [List.getElem?_cons_succ, List.getElem?_cons_zero, Option.some.injEq] at hv; subst hv; exact c12
  | j + 13, hv => simp at hv
def PcAt (w : World) (p : Nat) (x : Pc) : Prop := ∃ A n c, w.heap[p]? = some (.cells #[.int .i64 x.me, .slice A n c, .int .i64 x.time, .int .i64 x.seq] 25 (0, 0)) ∧ (n ≤ c ∧ c ≤ maxLen) ∧ Sl 16 eKp w (fun b => b < w.heap.size ∧ b ≠ p) A n x.keep
theorem PcAt.go {w w' : World} {p : Nat} {x : Pc} (h : PcAt w p x) (k : Fr w w') : PcAt w' p x := by
  obtain ⟨A, n, c, h1, h2, h3⟩ := h
  exact ⟨A, n, c, blk_go h1 k, h2, (h3.keep sKp fun a ha => k.cell ha.1).more sKp fun b hb => ⟨Nat.lt_of_lt_of_le hb.1 k.size, hb.2⟩⟩
theorem PcAt.chg {w w' : World} {p q : Nat} {x : Pc} (h : PcAt w p x) (k : Chg (fun b => b = q) w w') (hpq : p ≠ q) (hn : ∀ A n c, w.heap[p]? = some (.cells #[.int .i64 x.me, .slice A n c, .int .i64 x.time, .int .i64 x.seq] 25 (0, 0)) → Sl 16 eKp w (fun b => b < w.heap.size ∧ b ≠ p) A n x.keep → Sl 16 eKp w (fun b => b < w.heap.size ∧ b ≠ p ∧ b ≠ q) A n x.keep) : PcAt w' p x := by
  obtain ⟨A, n, c, h1, h2, h3⟩ := h
  exact ⟨A, n, c, k.blk h1 hpq, h2, ((hn A n c h1 h3).chg sKp k fun b hb => ⟨hb.1, hb.2.2⟩).more sKp fun b hb => ⟨Nat.lt_of_lt_of_le hb.1 k.size, hb.2.1⟩⟩
theorem PcAt.mk {w w' : World} {x : Pc} {A : Option Addr} {n c N : Nat} (hb : n ≤ c ∧ c ≤ maxLen) (h : Sl 16 eKp w (NW N w.heap.size) A n x.keep) (e : w' = w.alloc (.cells #[.int .i64 x.me, .slice A n c, .int .i64 x.time, .int .i64 x.seq] 25)) : PcAt w' w.heap.size x := by
  subst e
  have hf : Fr w (w.alloc (.cells #[.int .i64 x.me, .slice A n c, .int .i64 x.time, .int .i64 x.seq] 25)) := frAlloc _ _
  exact ⟨A, n, c, heap_new rfl, hb, (h.keep sKp fun a ha => hf.cell ha.2).more sKp fun b hb => ⟨Nat.lt_of_lt_of_le hb.2 hf.size, by have := hb.2; omega⟩⟩
theorem PcAt.store {W w' : World} {p : Nat} {x : Pc} {u0 u1 u2 u3 : Value} {A : Option Addr} {n c : Nat} (hp : W.heap[p]? = some (.cells #[u0, u1, u2, u3] 25 (0, 0))) (hf : Fr W w') (hb : n ≤ c ∧ c ≤ maxLen) (h : Sl 16 eKp w' (NW W.heap.size w'.heap.size) A n x.keep) :
    PcAt ((((w'.setCell ⟨p, 0, none⟩ (.int .i64 x.me)).setCell ⟨p, 1, none⟩ (.slice A n c)).setCell ⟨p, 2, none⟩ (.int .i64 x.time)).setCell ⟨p, 3, none⟩ (.int .i64 x.seq)) p x := by
  have hpw := (Array.getElem?_eq_some_iff.1 hp).1
  have hC : Chg (fun b => b = p) w' ((((w'.setCell ⟨p, 0, none⟩ (.int .i64 x.me)).setCell ⟨p, 1, none⟩ (.slice A n c)).setCell ⟨p, 2, none⟩ (.int .i64 x.time)).setCell ⟨p, 3, none⟩ (.int .i64 x.seq)) := Chg.of (grw4_ ⟨rfl, rfl, rfl, Nat.le_refl _, fun _ _ _ => rfl⟩)
  exact ⟨A, n, c, stor4_ (blk_go hp hf), hb, (h.chg sKp hC fun b hb => ⟨hb.2, by have := hb.1; omega⟩).more sKp fun b hb => ⟨Nat.lt_of_lt_of_le hb.2 hC.size, by have := hb.1; omega⟩⟩
set_option maxRecDepth 100000 in
set_option maxHeartbeats 16000000 in
theorem keepParts_any (w : World) (v : Vars w) (me : Int) (hme : wfI me) (A : Option Addr) (n c : Nat) (l : List Rc) (h : Sl 13 eRc w (LT w.heap.size) A n l) (hn8 : n * 136 ≤ lim) (hn : n ≤ c) (hc : c ≤ maxLen) (k : Int) (hk : wfI k) :
    Calls Tryz.prog 3 #[.int .i64 me, .slice A n c, .int .i64 k] w fun e w' => e = .returned (.bool true) ∧ Fr w w' := by
  have hl : l.length = n := h.1
  obtain ⟨P, hP⟩ : ∃ P, P = replayF me l := ⟨_, rfl⟩
  have RP : Hid (∀ W, Fr w W → Calls Tryz.prog 14 #[.int .i64 me, .slice A n c] W (NxPost W P)) := fun W hf => by rw [hP]; exact keepReplay_any W me A n c l (h.go sRc hf) (by omega)
  have H := Lib.hid h
  have HV := Lib.hid v
  have HPP := Lib.hid hP
  have HL := Lib.hid hl
  clear h v hP hl
  go_enter Tryz.func3, Tryz.ntmps3
  go_wp2_with fail
  (with_reducible refine (RP.out _ (Below.refl _ _)).mono ?_)
  rintro e w2 ⟨A2, n2, c2, rfl, hb2, hs2, hf2⟩
  obtain ⟨pe, hpe⟩ : ∃ pe, pe = P.2 := ⟨_, rfl⟩
  rw [← hpe]
  have HPE := Lib.hid hpe
  clear hpe RP
  go_upto_region 2 with fail
  obtain ⟨W3, hW3⟩ : ∃ W3, W3 = w2.alloc (.cells #[.int .i64 P.1.me, .slice A2 n2 c2, .int .i64 P.1.time, .int .i64 P.1.seq] 25) := ⟨_, rfl⟩
  obtain ⟨bw, hbw⟩ : ∃ bw, bw = w2.heap.size := ⟨_, rfl⟩
  have HW3 : Hid (PcAt W3 bw P.1) := by rw [hbw]; exact PcAt.mk hb2 hs2 hW3
  have HF3 : Hid (Fr w W3) := by rw [hW3]; exact hf2.trans (frAlloc _ _)
  have hwb : w.heap.size ≤ bw := by rw [hbw]; exact hf2.size
  have hwl : bw < W3.heap.size := by rw [hW3, hbw]; simp
  rw [← hW3, ← hbw]
  clear hW3 hbw hb2 hs2 hf2
  go_wp2_with fail
  refine (keepHeld_any _).mono ?_
  rintro e w4 ⟨rfl, hf4⟩
  have HW4 : Hid (PcAt w4 bw P.1) := HW3.out.go hf4
  have HF4 : Hid (Fr w w4) := HF3.out.trans hf4
  have hw4 : bw < w4.heap.size := Nat.lt_of_lt_of_le hwl hf4.size
  clear hf4 HW3 HF3 hwl
  by_cases h1 : pe = 0
  case neg =>
    have t1 : (pe != 0) = true := by simp [h1]
    clear h1
    go_wp2_with fail
    refine (keepHeld_any _).mono ?_
    rintro e w5 ⟨rfl, hf5⟩
    have HF5 : Hid (Fr w w5) := HF4.out.trans hf5
    clear hf5
    go_wp2_with fail
    go_ret
    exact ⟨rfl, HF5.out⟩
  case pos =>
  have t1 : (pe != 0) = false := by simp [h1]
  obtain ⟨Q, hQ⟩ : ∃ Q, Q = P.1 := ⟨_, rfl⟩
  rw [← hQ] at HW4
  have hrq : replayF me l = (Q, 0) := by rw [← HPP.out]; exact Prod.ext hQ.symm (HPE.out.symm.trans h1)
  clear h1 hQ HPE HPP
  have hl2 : n ≤ 200 := by have := (replayF_ok hrq).2.1; rw [HL.out] at this; exact this
  obtain ⟨j, hj⟩ : ∃ j : Nat, k % ((n + 1 : Nat) : Int) = j := Int.eq_ofNat_of_zero_le (Int.emod_nonneg _ (by omega))
  have hjn : j ≤ n := by have := Int.emod_lt_of_pos k (show (0 : Int) < ((n + 1 : Nat) : Int) by omega); omega
  have hw1 : IntKind.i64.wrap ((n : Int) + 1) = (n : Int) + 1 := by rw [IntKind.wrap_i64]; omega
  have CAT : Hid (∀ W, Calls Tryz.prog 16 #[.int .i64 k, .int .i64 ((n : Int) + 1)] W fun e w' => e = .returned (.int .i64 (j : Int)) ∧ W = w') := fun W => by
    have := at_any W k (n + 1) (by omega) (by unfold lim; omega)
    rw [hj] at this
    exact this
  obtain ⟨now, hp1, hp2⟩ := parts hrq j
  have RJ : Hid (∀ W, Fr w W → Calls Tryz.prog 14 #[.int .i64 me, .slice A j c] W (NxPost W (now, 0))) := fun W hf => by rw [← hp1]; exact keepReplay_any W me A j c (l.take j) ((H.out.go sRc hf).pre hjn) (by omega)
  have HRQ := Lib.hid hrq
  have HP2 := Lib.hid hp2
  have hjc : (j : Int) ≤ (c : Int) := by omega
  have hjn2 : (j : Int) ≤ (n : Int) := by omega
  have hj0 : (0 : Int) ≤ (j : Int) := by omega
  clear hrq hp1 hp2 hj
  go_wp2_with fail
  (with_reducible refine (CAT.out _).mono ?_)
  rintro r w5 ⟨rfl, rfl⟩
  clear CAT hw1
  go_wp2_with fail
  (with_reducible refine (RJ.out _ HF4.out).mono ?_)
  rintro r w6 ⟨A6, n6, c6, rfl, hb6, hs6, hf6⟩
  clear RJ t1
  go_upto_region 6 with fail
  obtain ⟨W7, hW7⟩ : ∃ W7, W7 = w6.alloc (.cells #[.int .i64 now.me, .slice A6 n6 c6, .int .i64 now.time, .int .i64 now.seq] 25) := ⟨_, rfl⟩
  obtain ⟨bn, hbn⟩ : ∃ bn, bn = w6.heap.size := ⟨_, rfl⟩
  have HN7 : Hid (PcAt W7 bn now) := by rw [hbn]; exact PcAt.mk hb6 hs6 hW7
  have hf47 : Fr w4 W7 := by rw [hW7]; exact hf6.trans (frAlloc _ _)
  have hn4 : w4.heap.size ≤ bn := by rw [hbn]; exact hf6.size
  have hnl : bn < W7.heap.size := by rw [hW7, hbn]; simp
  have HF7 : Hid (Fr w W7) := HF4.out.trans hf47
  obtain ⟨Aw, nw, cw, hk1, hk2, hk3⟩ := HW4.out
  have HWB : Hid (W7.heap[bw]? = some (.cells #[.int .i64 Q.me, .slice Aw nw cw, .int .i64 Q.time, .int .i64 Q.seq] 25 (0, 0))) := blk_go hk1 hf47
  have HWS : Hid (Sl 16 eKp W7 (fun b => b < w4.heap.size) Aw nw Q.keep) := (hk3.keep sKp fun a ha => hf47.cell ha.1).more sKp fun b hb => hb.1
  have HWC := Lib.hid hk2
  rw [← hW7, ← hbn]
  clear hW7 hbn hb6 hs6 hf6 hk1 hk2 hk3 HW4 HF4 hf47
  have HC0 := Lib.hid ((H.out.go sRc (Below.refl _ _)).cut hjn hn)
  go_upto_region 8 with fail
  go_cut [47, 48, 49] (fun s47 s48 s49 wx => ∃ (B : Option Addr) (m d : Nat), s47 = .slice B m d ∧ Hid (Sl 13 eRc w (LT w.heap.size) B m (l.drop j)) ∧ Hid (m = n - j) ∧ s48 = .int .i64 m ∧ s49 = .int .i64 0 ∧ wx = W7)
  case first =>
    have hc0 := HC0.out
    obtain ⟨X, hX⟩ : ∃ X, (if c = j then A else Option.map (fun x => x.add (j * 13)) A) = X := ⟨_, rfl⟩
    rw [hX] at hc0
    (have Hc0 := Lib.hid hc0; clear hc0)
    clear HC0
    go_wp2_with fail
    go_meet
    exact ⟨_, _, _, rfl, Hc0.out, rfl, rfl, rfl, rfl⟩
  case rest =>
  obtain ⟨B, m, d, rfl, HB, HM, rfl, rfl, hwc⟩ := hcut
  rw [hwc]
  clear hwc HC0
  have hm2 : m ≤ 200 := by have := HM.out; omega
  go_wp2_with fail
  go_loopw [49] (fun s49 wr => ∃ (i : Nat) (p : Pc), i ≤ m ∧ s49 = .int .i64 i ∧ Hid (replayL p ((l.drop j).drop i) = (Q, 0)) ∧ Hid (PcAt wr bn p) ∧ Hid (Chg (fun b => b = bn) W7 wr)) (fun i _ => m - (intOf i).toNat)
  case atStart => exact ⟨0, now, Nat.zero_le _, rfl, HP2.out, HN7.out, Chg.refl _ _⟩
  case round =>
    obtain ⟨i, p, hi, rfl, HR, HP, HC⟩ := hrel
    clear HP2 HN7
    have HFr : Hid (Fr w wr) := HC.out.fr HF7.out fun b hb => by have e : b = bn := hb; have := hwb; have := hw4; omega
    by_cases hlt : i < m
    · obtain ⟨ad, rfl, hE⟩ := (HB.out.go sRc HFr.out).els (by omega)
      obtain ⟨r, hr, hrr⟩ := hE.row hlt
      obtain ⟨B1, m1, d1, B2, m2, d2, hcs, hwr, hbd, hbc⟩ := eRc_cs hrr
      have hst := HR.out
      rw [drop_cons hr] at hst
      obtain ⟨hn0, hst2⟩ := replayL_cons hst
      obtain ⟨Y, hY⟩ : ∃ Y, Y = (nextF p r).1 := ⟨_, rfl⟩
      have hny : nextF p r = (Y, 0) := by rw [hY]; exact Prod.ext rfl hn0
      rw [← hY] at hst2
      obtain ⟨Ap, np, cp, hp1, hp2, hp3⟩ := HP.out
      have NX : Hid (∀ W, Fr wr W → Calls Tryz.prog 17 #[.agg #[.int .i64 p.me, .slice Ap np cp, .int .i64 p.time, .int .i64 p.seq], .agg #[.int .i64 r.kind, .int .i64 r.place, .int .i64 r.n, .int .i64 r.try_, .int .i64 r.h.frm, .int .i64 r.h.seq, .int .i64 r.h.to, .int .i64 r.h.till, .int .i64 r.h.bytes, .int .i64 r.h.block, .int .i64 r.s.id, .slice B1 m1 d1, .slice B2 m2 d2]] W (NxPost W (Y, 0))) := fun W hf => by
        rw [← hny]
        exact keepNext_any W p Ap np cp ((hp3.more sKp fun b hb => hb.1).go sKp hf) (by omega) r B1 m1 d1 B2 m2 d2 hwr (hbd.go hf) (hbc.go hf)
      have HST := Lib.hid hst2
      (have Hcs := Lib.hid hcs; clear hcs; have Hp1 := Lib.hid hp1; clear hp1)
      clear hE hr hrr hwr hbd hbc hst hn0 hY hny hst2 hp3 hp2 HR HP
      go_upto_region 11 with (first | (refine wpList_load_cells 13 rfl 40 _ rfl _ rfl _ Hcs.out _ Tryz.underlying40 rfl (by kernel_rfl) rfl ?_) | (refine wpList_store_new 13 rfl 40 _ _ rfl _ _ rfl rfl (by kernel_rfl) rfl rfl (by simp [Value.oneCell']) ?_))
      obtain ⟨W8, hW8⟩ : ∃ W8, W8 = wr.alloc (.cells #[.int .i64 r.kind, .int .i64 r.place, .int .i64 r.n, .int .i64 r.try_, .int .i64 r.h.frm, .int .i64 r.h.seq, .int .i64 r.h.to, .int .i64 r.h.till, .int .i64 r.h.bytes, .int .i64 r.h.block, .int .i64 r.s.id, .slice B1 m1 d1, .slice B2 m2 d2] 40) := ⟨_, rfl⟩
      obtain ⟨br, hbr⟩ : ∃ br, br = wr.heap.size := ⟨_, rfl⟩
      have hr8 : W8.heap[br]? = some (.cells #[.int .i64 r.kind, .int .i64 r.place, .int .i64 r.n, .int .i64 r.try_, .int .i64 r.h.frm, .int .i64 r.h.seq, .int .i64 r.h.to, .int .i64 r.h.till, .int .i64 r.h.bytes, .int .i64 r.h.block, .int .i64 r.s.id, .slice B1 m1 d1, .slice B2 m2 d2] 40 (0, 0)) := by rw [hW8]; exact heap_new hbr
      have HF8 : Hid (Fr wr W8) := by rw [hW8]; exact frAlloc _ _
      have hp8 := blk_go Hp1.out HF8.out
      rw [← hW8, ← hbr]
      clear hW8 hbr Hcs
      (have Hr8 := Lib.hid hr8; clear hr8; have Hp8 := Lib.hid hp8; clear hp8)
      go_wp2_with (first | (refine wpList_load_cells 13 rfl 40 _ rfl _ rfl _ (blk_cs Hr8.out) _ Tryz.underlying40 rfl (by kernel_rfl) rfl ?_) | (refine wpList_load_cells 4 rfl 25 _ rfl _ rfl _ (blk_cs Hp8.out) _ Tryz.underlying25 rfl (by kernel_rfl) rfl ?_))
      (with_reducible refine (NX.out _ HF8.out).mono ?_)
      rintro e w9 ⟨A9, n9, c9, rfl, hb9, hs9, hf9⟩
      have hp9 := blk_go Hp8.out hf9
      have HN9 := Lib.hid (PcAt.store Hp8.out hf9 hb9 hs9)
      have HC9 : Hid (Chg (fun b => b = bn) W7 ((((w9.setCell ⟨bn, 0, none⟩ (.int .i64 Y.me)).setCell ⟨bn, 1, none⟩ (.slice A9 n9 c9)).setCell ⟨bn, 2, none⟩ (.int .i64 Y.time)).setCell ⟨bn, 3, none⟩ (.int .i64 Y.seq))) :=
        (HC.out.trans ((HF8.out.trans hf9).chg)).trans (Chg.of (grw4_ ⟨rfl, rfl, rfl, Nat.le_refl _, fun _ _ _ => rfl⟩))
      (obtain ⟨bp0, bp1, bp2, bp3⟩ := box4_ hp9)
      have y0 := blk_free (i := 0) hp9
      have y1 := blk_free (i := 1) hp9
      have y2 := blk_free (i := 2) hp9
      have y3 := blk_free (i := 3) hp9
      have lq := (Array.getElem?_eq_some_iff.1 hp9).1
      clear hp9 hb9 hs9 hf9 NX Hp8 Hr8 HC
      go_upto_region 12 with fail
      obtain ⟨V9, hV9⟩ : ∃ V, V = (((w9.setCell ⟨bn, 0, none⟩ (.int .i64 Y.me)).setCell ⟨bn, 1, none⟩ (.slice A9 n9 c9)).setCell ⟨bn, 2, none⟩ (.int .i64 Y.time)).setCell ⟨bn, 3, none⟩ (.int .i64 Y.seq) := ⟨_, rfl⟩
      rw [← hV9]
      rw [← hV9] at HN9 HC9
      clear hV9 bp0 bp1 bp2 bp3 y0 y1 y2 y3 lq
      go_wp2_with fail
      go_roundw
      case rel => exact ⟨i + 1, Y, by omega, by go_num, HST, HN9, HC9⟩
      case measure => simp [intOf]; omega
    · have hi2 : i = m := by omega
      obtain ⟨V1, rfl⟩ : ∃ V1, V1 = wr := ⟨_, rfl⟩
      have hpq : p = Q := by
        have h9 := HR.out
        rw [List.drop_eq_nil_of_le (by have := HB.out.1; omega), replayL] at h9
        exact (Prod.mk.inj h9).1
      rw [hpq] at HP
      obtain ⟨An, nn, cn, hq1, hq2, hq3⟩ := HP.out
      have HNB := Lib.hid hq1
      have HNC := Lib.hid hq2
      have HNS : Hid (Sl 16 eKp V1 (LT V1.heap.size) An nn Q.keep) := hq3.more sKp fun b hb => hb.1
      have hwb2 : bw ≠ bn := by omega
      have HWB2 := Lib.hid (HC.out.blk HWB.out hwb2)
      have HWS2 : Hid (Sl 16 eKp V1 (LT V1.heap.size) Aw nw Q.keep) := (HWS.out.chg sKp HC.out fun b hb => ⟨by omega, fun e => by have e : b = bn := e; omega⟩).more sKp fun b hb => by have := HC.out.size; show b < _; omega
      clear HP hq1 hq2 hq3 HR hpq hi2 HWB HWS HC HB HM
      go_upto_region 16 with fail
      obtain ⟨W11, hW11⟩ : ∃ W, W = V1.alloc (.cells #[.slice none 0 0, .slice none 0 0] 43) := ⟨_, rfl⟩
      obtain ⟨bd, hbd⟩ : ∃ b, b = V1.heap.size := ⟨_, rfl⟩
      have HD11 : Hid (DkAt W11 bd Dk.zero) := by rw [hW11, hbd]; exact DkAt.mk (N := 0) byt_nil byt_nil
      have HF11 : Hid (Fr V1 W11) := by rw [hW11]; exact frAlloc _ _
      have hdr : V1.heap.size ≤ bd := by rw [hbd]; exact Nat.le_refl _
      rw [← hW11, ← hbd]
      clear hW11 hbd
      have hrw := HFr.out.size
      go_wp2_with fail
      go_loopw [64] (fun s64 wx => ∃ (i : Nat) (d : Dk), i ≤ n ∧ s64 = .int .i64 i ∧ Hid (DkAt wx bd d) ∧ Hid (Logs d (l.take i) []) ∧ Hid (Chg (fun b => b = bd) W11 wx)) (fun i _ => n - (intOf i).toNat)
      case atStart => exact ⟨0, Dk.zero, Nat.zero_le _, rfl, HD11.out, logs_zero, Chg.refl _ _⟩
      case round =>
        obtain ⟨i, d, hi, rfl, HD, HLG, HC⟩ := hrel
        clear HD11
        have HRX : Hid (Fr V1 wr) := HC.out.fr HF11.out fun b hb => by have e : b = bd := hb; omega
        have HFX : Hid (Fr w wr) := HFr.out.trans HRX.out
        by_cases hlt : i < n
        · obtain ⟨ad, rfl, hE⟩ := (H.out.go sRc HFX.out).els (by omega)
          obtain ⟨r, hr, hrr⟩ := hE.row hlt
          obtain ⟨B1, m1, d1, B2, m2, d2, hcs, hwr, hbd, hbc⟩ := eRc_cs hrr
          have HST := Lib.hid (disk_step HRQ.out hr HLG.out)
          (have Hcs := Lib.hid hcs; clear hcs; have Hwr := Lib.hid hwr; clear hwr; have Hbd := Lib.hid hbd; clear hbd; have Hbc := Lib.hid hbc; clear hbc)
          clear hE hr hrr HLG
          go_upto_region 19 with (first | (refine wpList_load_cells 13 rfl 40 _ rfl _ rfl _ Hcs.out _ Tryz.underlying40 rfl (by kernel_rfl) rfl ?_) | (refine wpList_store_new 13 rfl 40 _ _ rfl _ _ rfl rfl (by kernel_rfl) rfl rfl (by simp [Value.oneCell']) ?_))
          obtain ⟨W8, hW8⟩ : ∃ W8, W8 = wr.alloc (.cells #[.int .i64 r.kind, .int .i64 r.place, .int .i64 r.n, .int .i64 r.try_, .int .i64 r.h.frm, .int .i64 r.h.seq, .int .i64 r.h.to, .int .i64 r.h.till, .int .i64 r.h.bytes, .int .i64 r.h.block, .int .i64 r.s.id, .slice B1 m1 d1, .slice B2 m2 d2] 40) := ⟨_, rfl⟩
          obtain ⟨br, hbr⟩ : ∃ br, br = wr.heap.size := ⟨_, rfl⟩
          have hr8 : W8.heap[br]? = some (.cells #[.int .i64 r.kind, .int .i64 r.place, .int .i64 r.n, .int .i64 r.try_, .int .i64 r.h.frm, .int .i64 r.h.seq, .int .i64 r.h.to, .int .i64 r.h.till, .int .i64 r.h.bytes, .int .i64 r.h.block, .int .i64 r.s.id, .slice B1 m1 d1, .slice B2 m2 d2] 40 (0, 0)) := by rw [hW8]; exact heap_new hbr
          have HF8 : Hid (Fr wr W8) := by rw [hW8]; exact frAlloc _ _
          obtain ⟨A1, n1, c1, E1, k1, g1, hp1, ha1, hb1⟩ := HD.out.off
          have hp8 := blk_go hp1 HF8.out
          obtain ⟨X, hX⟩ : ∃ X, X = putF d r := ⟨_, rfl⟩
          have PUT : Hid (Calls Tryz.prog 18 #[.agg #[.slice A1 n1 c1, .slice E1 k1 g1], .agg #[.int .i64 r.kind, .int .i64 r.place, .int .i64 r.n, .int .i64 r.try_, .int .i64 r.h.frm, .int .i64 r.h.seq, .int .i64 r.h.to, .int .i64 r.h.till, .int .i64 r.h.bytes, .int .i64 r.h.block, .int .i64 r.s.id, .slice B1 m1 d1, .slice B2 m2 d2]] W8 (KPost W8 X)) := by
            rw [hX]
            exact diskPut_any W8 (HV.out.go (HFX.out.trans HF8.out)) d r A1 n1 c1 E1 k1 g1 B1 m1 d1 B2 m2 d2 (ha1.go HF8.out) (hb1.go HF8.out) Hwr.out (Hbd.out.go HF8.out) (Hbc.out.go HF8.out)
          rw [← hX] at HST
          rw [← hW8, ← hbr]
          (have Hr8 := Lib.hid hr8; clear hr8; have Hp8 := Lib.hid hp8; clear hp8)
          clear hW8 hbr Hcs hp1 ha1 hb1 hX Hwr Hbd Hbc HD
          go_wp2_with (first | (refine wpList_load_cells 2 rfl 43 _ rfl _ rfl _ (blk_cs Hp8.out) _ Tryz.underlying43 rfl (by kernel_rfl) rfl ?_) | (refine wpList_load_cells 13 rfl 40 _ rfl _ rfl _ (blk_cs Hr8.out) _ Tryz.underlying40 rfl (by kernel_rfl) rfl ?_))
          (with_reducible refine (PUT.out).mono ?_)
          rintro e w9 ⟨A2, n2, c2, E2, k2, g2, rfl, hA2, hB2, hf9⟩
          obtain ⟨xe, hxe⟩ : ∃ xe, xe = X.2 := ⟨_, rfl⟩
          rw [← hxe]
          have HXE := Lib.hid hxe
          have hp9 := blk_go Hp8.out hf9
          have HD9 := Lib.hid (DkAt.store Hp8.out hf9 hA2 hB2)
          have HC9 : Hid (Chg (fun b => b = bd) W11 ((w9.setCell ⟨bd, 0, none⟩ (.slice A2 n2 c2)).setCell ⟨bd, 1, none⟩ (.slice E2 k2 g2))) :=
            (HC.out.trans ((HF8.out.trans hf9).chg)).trans (Chg.of (grw2_ ⟨rfl, rfl, rfl, Nat.le_refl _, fun _ _ _ => rfl⟩))
          (obtain ⟨bp0, bp1⟩ := box2_ hp9)
          have y0 := blk_free (i := 0) hp9
          have y1 := blk_free (i := 1) hp9
          have lq := (Array.getElem?_eq_some_iff.1 hp9).1
          clear hp9 hA2 hB2 hf9 PUT Hp8 Hr8 HC hxe HF8
          go_upto_region 20 with fail
          obtain ⟨V9, hV9⟩ : ∃ V, V = (w9.setCell ⟨bd, 0, none⟩ (.slice A2 n2 c2)).setCell ⟨bd, 1, none⟩ (.slice E2 k2 g2) := ⟨_, rfl⟩
          rw [← hV9]
          rw [← hV9] at HD9 HC9
          clear hV9 bp0 bp1 y0 y1 lq
          have HFV : Hid (Fr w V9) := HFr.out.trans (HC9.out.fr HF11.out fun b hb => by have e : b = bd := hb; omega)
          rcases HST.out with hz | ⟨x, hx1, hx2, hx3⟩
          · have he : xe = 2 := by rw [HXE.out, hz]
            subst he
            clear hz HST
            go_wp2_with fail
            go_ret
            exact ⟨rfl, HFV.out⟩
          · have he : xe = 0 := by rw [HXE.out, hx1]
            subst he
            have hxx : X.1 = x := by rw [hx1]
            rw [hxx] at HD9
            have HLG := Lib.hid hx3
            obtain ⟨A3, n3, c3, E3, k3, g3, hp3, ha3, hb3⟩ := HD9.out.off
            have SYN : Hid (Calls Tryz.prog 19 #[.agg #[.slice A3 n3 c3, .slice E3 k3 g3]] V9 (KPost V9 (⟨logText (l.take (i + 1)), []⟩, 0))) := by
              rw [← hx2]
              exact diskSync_any V9 (HV.out.go HFV.out) x A3 n3 c3 E3 k3 g3 ha3 hb3
            (have Hp3 := Lib.hid hp3; clear hp3)
            clear hx1 hx2 hx3 hxx ha3 hb3 HD9 HST HXE
            go_wp2_with (first | (refine wpList_load_cells 2 rfl 43 _ rfl _ rfl _ (blk_cs Hp3.out) _ Tryz.underlying43 rfl (by kernel_rfl) rfl ?_) | fail)
            (with_reducible refine (SYN.out).mono ?_)
            rintro e w9 ⟨A4, n4, c4, E4, k4, g4, rfl, hA4, hB4, hf9⟩
            have hp9 := blk_go Hp3.out hf9
            have HD4 := Lib.hid (DkAt.store Hp3.out hf9 hA4 hB4)
            have HC4 : Hid (Chg (fun b => b = bd) W11 ((w9.setCell ⟨bd, 0, none⟩ (.slice A4 n4 c4)).setCell ⟨bd, 1, none⟩ (.slice E4 k4 g4))) :=
              (HC9.out.trans hf9.chg).trans (Chg.of (grw2_ ⟨rfl, rfl, rfl, Nat.le_refl _, fun _ _ _ => rfl⟩))
            (obtain ⟨bp0, bp1⟩ := box2_ hp9)
            have y0 := blk_free (i := 0) hp9
            have y1 := blk_free (i := 1) hp9
            have lq := (Array.getElem?_eq_some_iff.1 hp9).1
            clear hp9 hA4 hB4 hf9 SYN Hp3 HC9 HFV
            go_upto_region 23 with fail
            obtain ⟨V4, hV4⟩ : ∃ V, V = (w9.setCell ⟨bd, 0, none⟩ (.slice A4 n4 c4)).setCell ⟨bd, 1, none⟩ (.slice E4 k4 g4) := ⟨_, rfl⟩
            rw [← hV4]
            rw [← hV4] at HD4 HC4
            clear hV4 bp0 bp1 y0 y1 lq
            go_wp2_with fail
            go_roundw
            case rel => exact ⟨i + 1, _, by omega, by go_num, HD4, HLG, HC4⟩
            case measure => simp [intOf]; omega
        · have hi2 : i = n := by omega
          have hlg : Logs d l [] := by
            have h9 := HLG.out
            rw [hi2, List.take_of_length_le (by have := HL.out; omega)] at h9
            exact h9
          obtain ⟨A1, n1, c1, E1, k1, g1, hp1, ha1, hb1⟩ := HD.out.off
          have REC : Hid (Calls Tryz.prog 20 #[.agg #[.slice A1 n1 c1, .slice E1 k1 g1]] wr (VPost wr ((d, l), 0))) := by
            rw [← hlg.recoverAll]
            exact diskRecover_any wr (HV.out.go HFX.out) d A1 n1 c1 E1 k1 g1 ha1 hb1
          (have Hp1 := Lib.hid hp1; clear hp1)
          clear hi2 hlg ha1 hb1 HD HLG
          go_wp2_with (first | (refine wpList_load_cells 2 rfl 43 _ rfl _ rfl _ (blk_cs Hp1.out) _ Tryz.underlying43 rfl (by kernel_rfl) rfl ?_) | fail)
          (with_reducible refine (REC.out).mono ?_)
          rintro e w9 ⟨A2, n2, c2, v9, rfl, _, hA2, hom, hf9⟩
          obtain ⟨Am, cm, rfl, _, hsm⟩ := hom.slN sRc (Nat.le_refl _)
          rw [HL.out] at hsm
          rw [HL.out]
          have HM : Hid (Sl 13 eRc w9 (LT w9.heap.size) Am n l) := hsm.more sRc fun b hb => hb.2
          clear REC hA2 hom hsm
          go_upto_region 27 with fail
          obtain ⟨W10, hW10⟩ : ∃ W, W = w9.alloc (.cells #[.slice A2 n2 c2, .slice none 0 0] 43) := ⟨_, rfl⟩
          have HF9 : Hid (Fr wr w9) := hf9
          have HF10 : Hid (Fr w9 W10) := by rw [hW10]; exact frAlloc _ _
          have HV10 : Hid (Fr V1 W10) := HRX.out.trans (HF9.out.trans HF10.out)
          rw [← hW10]
          have hpx := blk_go HNB.out HV10.out
          have hqx := blk_go HWB2.out HV10.out
          have SM : Hid (Calls Tryz.prog 21 #[.agg #[.int .i64 Q.me, .slice An nn cn, .int .i64 Q.time, .int .i64 Q.seq], .agg #[.int .i64 Q.me, .slice Aw nw cw, .int .i64 Q.time, .int .i64 Q.seq]] W10 fun r w' => r = .returned (.bool true) ∧ Fr W10 w') := by
            have h9 := keepSame_any W10 Q Q An nn cn Aw nw cw (HNS.out.go sKp HV10.out) (HWS2.out.go sKp HV10.out) (by have := HNC.out; omega)
            simp only [decide_true] at h9
            exact h9
          have CE : Hid (∀ W, Fr w9 W → Calls Tryz.prog 22 #[.slice Am n cm, .slice A n c, .func (.func 23) #[] #[]] W fun r w' => r = .returned (.bool true) ∧ Fr W w') := fun W hf => by
            have h9 := equalFuncRc_any W 23 entersNS saysRc Am A n cm n c l l (HM.out.go sRc hf) (H.out.go sRc (HFX.out.trans (HF9.out.trans hf))) (by omega)
            simpa using h9
          (obtain ⟨bp0, bp1, bp2, bp3⟩ := box4_ hpx)
          (obtain ⟨bq0, bq1, bq2, bq3⟩ := box4_ hqx)
          clear hW10 hpx hqx HM hf9 Hp1
          go_wp2_with fail
          (with_reducible refine (SM.out).mono ?_)
          rintro e w12 ⟨rfl, hf12⟩
          have HF12 : Hid (Fr w9 w12) := HF10.out.trans hf12
          clear hf12 SM bp0 bp1 bp2 bp3 bq0 bq1 bq2 bq3
          go_wp2_with fail
          (with_reducible refine (CE.out _ HF12.out).mono ?_)
          rintro e w13 ⟨rfl, hf13⟩
          have HF13 : Hid (Fr w w13) := HFX.out.trans (HF9.out.trans (HF12.out.trans hf13))
          clear hf13 CE
          go_wp2_with fail
          go_ret
          exact ⟨rfl, HF13.out⟩
end Go.Proofs.YtmiaplgfbphfmaaGreatDoor
namespace Go.Proofs.YtmiaplgfbphfmaaGreatDoor.keepPartsLaw
open Go.ChangeShapes Go.WideShapes Go.ChangeAt Go.RowKit

set_option maxRecDepth 100000 in
theorem lifted (os : Os) (started : os.Started) (H : Type) (enc : TypeId × Value → H) (F : Stop.Interp) :
    ReturnsInHanded {} Tryz.checked os 3 .any ((OpenSpec.ofChange Rows.keepPartsSpec).preRow enc Tryz.prog Tryz.f3 Rows.keepPartsRow.domain false Rows.keepPartsRow.laid) (((OpenSpec.ofChange Rows.keepPartsSpec).at F).post enc Tryz.prog Tryz.f3 false true false false) := by
  have hw : (DataW.whole enc Tryz.prog ((laidWorld os).forCall (fun _ _ => 0) ⟨#[], #[.int .i64 0, .slice none 0 0, .int .i64 0], []⟩).memory Tryz.f3.params.toList Rows.keepPartsSpec.vars false #[.int .i64 0, .slice none 0 0, .int .i64 0].toList 8).map (fun x => (x.1, x.2.1)) = some ([.lit (.int .i64 0), .nil, .lit (.int .i64 0)], []) := by kernel_rfl
  obtain ⟨⟨x1, x2, x3⟩, hx, hx1⟩ := Option.map_eq_some_iff.1 hw
  simp only [Prod.mk.injEq] at hx1
  obtain ⟨rfl, rfl⟩ := hx1
  refine returnsInHanded_of_row (C := Tryz.checked) (s := OpenSpec.ofChange Rows.keepPartsSpec) own started (by kernel_rfl) Tryz.func3
    (witness_row_atRef (enc := enc) (C := Tryz.checked) false (laidWorld os) #[.int .i64 0, .slice none 0 0, .int .i64 0] rfl (by kernel_rfl) (by kernel_rfl) (by kernel_rfl)
      (OpenSpec.preRow_of_cond 8 hx (by kernel_rfl) (fun k hk => by cases hk) (by kernel_rfl) (laid_met os _))) ?_
  intro W base args ds gs before hval0 hW _ _ hsz0 hL hsh _
  have hvars : Vars W := vars_of (show laidMet Tryz.prog laidList W from hL) hsh
  have hval : ∀ (j : Nat) t v, Tryz.f3.params[j]? = some t → args[j]? = some v → Value.okWide Tryz.prog W .any base t v := hval0
  have hsz : (DataW.weightsEach Tryz.prog (Tryz.f3.params.toList ++ Rows.keepPartsSpec.plain.varTypes Tryz.prog) (ds ++ gs)).all (· ≤ reachBytes) = true := hsz0
  have hW' := hW
  obtain ⟨p, q, hA0, hV, rfl, hfz, hnd⟩ := hW
  have hA : DataW.TrodAll enc Tryz.prog W 0 (fun _ => true) true Tryz.f3.params.toList args.toList ds p := hA0
  rw [Tryz.params3] at hA hval hsz
  obtain ⟨v0, vs0, d0, ds0, p0, q0, hargs, rfl, rfl, h0, r0⟩ := trodAll_cons hA
  obtain ⟨v1, vs1, d1, ds1, p1, q1, rfl, rfl, rfl, h1, r1⟩ := trodAll_cons r0
  obtain ⟨v2, vs2, d2, ds2, p2, q2, rfl, rfl, rfl, h2, r2⟩ := trodAll_cons r1
  obtain ⟨rfl, rfl, rfl⟩ := trodAll_nil r2
  obtain rfl : args = #[v0, v1, v2] := by cases args; simp_all
  obtain ⟨rfl, rfl⟩ := trodVars_none hV
  have k0 := h0
  have lt0 : ∀ x ∈ p0, x.block < W.heap.size := by obtain ⟨m, hm⟩ := k0; exact DataW.trod_lt m _ _ _ hm
  have s0 : ∀ n ∈ d0.weights Tryz.prog 3, n ≤ reachBytes := fun n hn => of_decide_eq_true (List.all_eq_true.1 hsz n (DataW.weights_mem_each (j := 0) rfl rfl n hn))
  obtain ⟨a0, rfl⟩ := okWide_int Tryz.underlying3 (hval 0 3 v0 rfl rfl)
  obtain ⟨y0, hy0⟩ : ∃ y, eInt W (LT W.heap.size) (fun j => [Value.int .i64 a0][j]?) y := by obtain ⟨fuel, hf⟩ := h0; exact (opens_int Tryz.underlying3 _ _ _ _ _ _ hf s0).2
  have w0 : wfI a0 := by obtain ⟨e, hw⟩ := hy0; simp at e; rw [e]; exact hw
  have k1 := h1
  have lt1 : ∀ x ∈ p1, x.block < W.heap.size := by obtain ⟨m, hm⟩ := k1; exact DataW.trod_lt m _ _ _ hm
  have s1 : ∀ n ∈ d1.weights Tryz.prog 22, n ≤ reachBytes := fun n hn => of_decide_eq_true (List.all_eq_true.1 hsz n (DataW.weights_mem_each (j := 1) rfl rfl n hn))
  obtain ⟨A1, n1, c1, rfl⟩ := okWide_slice Tryz.underlying22 (hval 1 22 v1 rfl rfl)
  obtain ⟨y1, hy1⟩ : ∃ y, (eSl 13 136 eRc) W (LT W.heap.size) (fun j => [Value.slice A1 n1 c1][j]?) y := by obtain ⟨fuel, hf⟩ := h1; exact (openRecs _ _ _ _ _ _ hf s1).2
  obtain ⟨_, _, _, e1, ⟨l1, lc1, lm1⟩, hs1⟩ := hy1; simp at e1; obtain ⟨rfl, rfl, rfl⟩ := e1
  have k2 := h2
  have lt2 : ∀ x ∈ p2, x.block < W.heap.size := by obtain ⟨m, hm⟩ := k2; exact DataW.trod_lt m _ _ _ hm
  have s2 : ∀ n ∈ d2.weights Tryz.prog 3, n ≤ reachBytes := fun n hn => of_decide_eq_true (List.all_eq_true.1 hsz n (DataW.weights_mem_each (j := 2) rfl rfl n hn))
  obtain ⟨a2, rfl⟩ := okWide_int Tryz.underlying3 (hval 2 3 v2 rfl rfl)
  obtain ⟨y2, hy2⟩ : ∃ y, eInt W (LT W.heap.size) (fun j => [Value.int .i64 a2][j]?) y := by obtain ⟨fuel, hf⟩ := h2; exact (opens_int Tryz.underlying3 _ _ _ _ _ _ hf s2).2
  have w2 : wfI a2 := by obtain ⟨e, hw⟩ := hy2; simp at e; rw [e]; exact hw
  clear hA0 hval0
  refine (keepParts_any W hvars a0 w0 A1 n1 c1 y1 hs1 l1 lc1 lm1 a2 w2).mono fun e W' ⟨he, bel⟩ => ?_
  subst he
  exact ⟨_, rfl, _, _, _, [], _, [], hW', trodAll_mk1 (shut_bool Tryz.underlying4 _), (trodAll_cons_mk (Below.trod laidOut (by kernel_rfl) (of_decide_eq_true (by kernel_rfl)) k0 bel lt0) (trodAll_cons_mk (Below.trod laidOut (by kernel_rfl) (of_decide_eq_true (by kernel_rfl)) k1 bel lt1) (trodAll_cons_mk (Below.trod laidOut (by kernel_rfl) (of_decide_eq_true (by kernel_rfl)) k2 bel lt2) trodAll_mk0))), rfl, bel.frame _, fun h => by cases h⟩

set_option maxHeartbeats 8000000 in
theorem closedF : joinedFacts Tryz.pinned.checked.prog 3 Tryz.f3 (OpenSpec.ofChange Rows.keepPartsSpec).bare Rows.keepPartsRow = true := by
  unfold joinedFacts
  simp only [Bool.and_eq_true]
  repeat' (refine And.intro ?_ ?_)
  all_goals (as_aux_lemma => kernel_rfl)
theorem said : Rows.KeepPartsSaid :=
  OpenClaim.holds_of_cond 3 Tryz.f3 rfl rfl rfl rfl rfl rfl rfl ⟨rfl, rfl, rfl, rfl, rfl⟩ rfl rfl rfl rfl rfl (by kernel_rfl) Tryz.func3 closedF
    (of_decide_eq_true (by kernel_rfl)) (by unfold Func.isWrapper; first | (rw [if_pos (by decide +kernel)]; kernel_rfl) | (rw [if_neg (by decide +kernel)]; exact ⟨rfl, rfl⟩))
    (fun os started H enc _ F => by rw [OpenClaim.pre_eq_preRow]; exact lifted os started H enc F)
theorem plain (f : FuncId) (fn : Func) (hf : Tryz.pinned.checked.prog.funcNamed "bottlepost/bottlepostlaw.KeepParts" = some f) (hfn : Tryz.pinned.checked.prog.funcs[f]? = some fn) :
    true = Tryz.pinned.checked.prog.looks [] ∧ ∀ (j : Nat) t, fn.params[j]? = some t → Tryz.pinned.checked.prog.wantsStandIn t = false := by
  obtain rfl : f = 3 := Option.some.inj ((show Tryz.prog.funcNamed "bottlepost/bottlepostlaw.KeepParts" = some 3 by kernel_rfl).symm.trans hf) |>.symm
  obtain rfl : fn = Tryz.f3 := (Option.some.inj (Tryz.func3.symm.trans hfn)).symm
  refine ⟨by kernel_rfl, fun j t ht => ?_⟩
  have hall : (Tryz.f3.params.toList.all fun t => !Tryz.prog.wantsStandIn t) = true := by kernel_rfl
  have hm : t ∈ Tryz.f3.params.toList := by simpa using Array.mem_of_getElem? ht
  have h1 := List.all_eq_true.1 hall t hm
  have h2 : Tryz.prog.wantsStandIn t = false := by simpa using h1
  exact h2
/-- The card: the law answers true for every input. -/
theorem proved : Rows.KeepPartsCardSaid :=
  Claim7.holds_tied_plain_at .later [] _ _ _ _ said (fun _ h => by cases h) (by kernel_rfl) (fun _ h => by cases h) keepParts_row_tie rfl ⟨rfl, rfl⟩ (by kernel_rfl) rfl plain (by kernel_rfl)
#print axioms proved
end Go.Proofs.YtmiaplgfbphfmaaGreatDoor.keepPartsLaw
