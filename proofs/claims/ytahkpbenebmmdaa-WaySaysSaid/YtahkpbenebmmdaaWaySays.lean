/- 'WaySays', walked. No condition. -/
import Derived.Test.YtahkpbenebmmdaaWayBack
import Derived.Test.YtahkpbenebmmdaaWayR
import Derived.Deep.RegionHeld3
import Derived.Deep.DeepCutAuto
import Derived.Deep.Cut
set_option linter.unusedSimpArgs false
set_option linter.unusedVariables false
namespace Go.Proofs.Ytahkpbenebmmdaa
open Go.RowKit
attribute [local irreducible] wpList

theorem wayTake_any (w : World) (A : Option Addr) (n c : Nat) (ls : List Ml) (h : Sl 13 eMl w (LT w.heap.size) A n ls) (hm : n * 120 ≤ lim) (hc : n ≤ c) (hcm : c ≤ maxLen) (k : Int) (wk : wfI k) (twice : Bool) :
    Calls Try.prog 47 #[.slice A n c, .int .i64 k, .bool twice] w fun e w' => ∃ v A' n' c', e = .returned (.tuple #[v, .agg #[.int .i64 (mlTake ls k twice).2.1.frm, .int .i64 (mlTake ls k twice).2.1.to, .int .i64 (mlTake ls k twice).2.1.f.kind, .int .i64 (mlTake ls k twice).2.1.f.h.frm, .int .i64 (mlTake ls k twice).2.1.f.h.seq, .int .i64 (mlTake ls k twice).2.1.f.h.to, .int .i64 (mlTake ls k twice).2.1.f.h.till, .int .i64 (mlTake ls k twice).2.1.f.h.bytes, .int .i64 (mlTake ls k twice).2.1.f.h.block, .int .i64 (mlTake ls k twice).2.1.f.s.id, .slice A' n' c', .int .i64 (mlTake ls k twice).2.1.f.n, .int .i64 (mlTake ls k twice).2.1.f.try_], .int .i64 (mlTake ls k twice).2.2]) ∧ Byt w' (LT w'.heap.size) A' n' c' (mlTake ls k twice).2.1.f.s.data ∧ Own 13 eMl w' w.heap.size 73 v (mlTake ls k twice).1 ∧ Fr w w' := by
  by_cases h1 : mlCheck ls = 0
  · by_cases h2 : k < 0 ∨ (n : Int) ≤ k
    · exact wayTake_err w A n c ls h hm hc hcm k wk twice (.inr h2)
    · obtain ⟨kk, rfl⟩ : ∃ kk : Nat, k = (kk : Int) := ⟨k.toNat, by omega⟩
      exact wayTake_ok w A n c ls h hm hc hcm kk twice h1 (by omega)
  · exact wayTake_err w A n c ls h hm hc hcm k wk twice (.inl h1)

theorem refSame_eq (w : World) (A A' : Option Addr) (n c n' c' : Nat) (xs : List Ml) (h : Sl 13 eMl w (LT w.heap.size) A n xs) (h' : Sl 13 eMl w (LT w.heap.size) A' n' xs) (hm : n ≤ maxLen) :
    Calls Try.prog 52 #[.slice A n c, .slice A' n' c'] w fun e w' => e = .returned (.bool true) ∧ Fr w w' :=
  (refSame_any w A A' n c n' c' xs xs h h' hm).mono fun e w' ⟨he, hf⟩ => ⟨by rw [he]; simp, hf⟩
theorem refZero (W : World) (A : Option Addr) (n c : Nat) (h : Byt W (LT W.heap.size) A n c mlZero.f.s.data) (hz : Byt W (LT W.heap.size) none 0 0 mlZero.f.s.data) :
    Calls Try.prog 52 #[.slice (some ⟨W.heap.size, 0, none⟩) 1 1, .slice (some ⟨W.heap.size + 1, 0, none⟩) 1 1] ((W.alloc (.cells #[.int .i64 mlZero.frm, .int .i64 mlZero.to, .int .i64 mlZero.f.kind, .int .i64 mlZero.f.h.frm, .int .i64 mlZero.f.h.seq, .int .i64 mlZero.f.h.to, .int .i64 mlZero.f.h.till, .int .i64 mlZero.f.h.bytes, .int .i64 mlZero.f.h.block, .int .i64 mlZero.f.s.id, .slice A n c, .int .i64 mlZero.f.n, .int .i64 mlZero.f.try_] 73)).alloc (.cells #[.int .i64 0, .int .i64 0, .int .i64 0, .int .i64 0, .int .i64 0, .int .i64 0, .int .i64 0, .int .i64 0, .int .i64 0, .int .i64 0, .slice none 0 0, .int .i64 0, .int .i64 0] 73)) (fun e w' => e = .returned (.bool true) ∧ Fr W w') := by
  have wz : mlZero.wf := by unfold Ml.wf Fm.wf Hd.wf; decide
  have hA : Fr W ((W.alloc (.cells #[.int .i64 mlZero.frm, .int .i64 mlZero.to, .int .i64 mlZero.f.kind, .int .i64 mlZero.f.h.frm, .int .i64 mlZero.f.h.seq, .int .i64 mlZero.f.h.to, .int .i64 mlZero.f.h.till, .int .i64 mlZero.f.h.bytes, .int .i64 mlZero.f.h.block, .int .i64 mlZero.f.s.id, .slice A n c, .int .i64 mlZero.f.n, .int .i64 mlZero.f.try_] 73)).alloc (.cells #[.int .i64 0, .int .i64 0, .int .i64 0, .int .i64 0, .int .i64 0, .int .i64 0, .int .i64 0, .int .i64 0, .int .i64 0, .int .i64 0, .slice none 0 0, .int .i64 0, .int .i64 0] 73)) := (frAlloc _ _).trans (frAlloc _ _)
  refine (refSame_any _ _ _ 1 1 1 1 [mlZero] [mlZero] (Sl.mail (m := mlZero) (A := A) (n := n) (c := c) (heap_old (heap_new rfl)) (by simp [LT]; omega) wz (h.go hA)) (Sl.mail (m := mlZero) (A := none) (n := 0) (c := 0) (heap_new (by simp)) (by simp [LT]) wz (hz.go hA)) (by unfold maxLen; omega)).mono ?_
  rintro e w8 ⟨rfl, h8⟩
  exact ⟨by simp, hA.trans h8⟩

/-- What is wanted behind a sending. -/
def mlWant (ls : List Ml) (m : Ml) : List Ml := if ls.length < 40 then ls ++ [m] else ls
theorem mlSend_parts {ls : List Ml} {m : Ml} : (mlSend ls m).2 = (if mlCheck ls = 0 then mlCheck [m] else mlCheck ls) ∧ ((mlSend ls m).2 ≠ 0 → (mlSend ls m).1 = []) ∧ ((mlSend ls m).2 = 0 → (mlSend ls m).1 = mlWant ls m) := by
  unfold mlSend mlWant
  by_cases h1 : mlCheck ls = 0
  · by_cases h2 : mlCheck [m] = 0
    · simp [h1, h2]
    · simp [h1, h2]
  · simp [h1]

theorem step_pick {P : Program} {w : World} {ops : Array Oper} {o : Oper} {n : Nat} {a : Act} {K : Act → World → Prop} {Q : Exit → Act → World → Prop} {E : Prop} (hd : o.dst = some n) (h : if Region.wanted o (yielded ops a.tmps) = true then Oper.wp P o a w K Q else E) :
    if Region.wanted o (yielded ops a.tmps) = true then Oper.wp P o a w K Q else E := h
theorem mail_beside {w w8 : World} {m : Ml} {A' : Option Addr} {n' c' base : Nat} {v8 : Value} {ls : List Ml} (hw : m.wf) (hy : Byt w (LT w.heap.size) A' n' c' m.f.s.data) (hf : Fr w w8) (ho : Own 13 eMl w8 base 73 v8 ls) (hb : w.heap.size ≤ base) :
    eMl w8 (fun b => b < w8.heap.size ∧ v8.ownBlock ≠ some b) (fun j => ([.int .i64 m.frm, .int .i64 m.to, .int .i64 m.f.kind, .int .i64 m.f.h.frm, .int .i64 m.f.h.seq, .int .i64 m.f.h.to, .int .i64 m.f.h.till, .int .i64 m.f.h.bytes, .int .i64 m.f.h.block, .int .i64 m.f.s.id, .slice A' n' c', .int .i64 m.f.n, .int .i64 m.f.try_] : List Value)[j]?) m :=
  eMl_iff.2 ⟨A', n', c', by simp, hw, hy.1, (hy.2.keep sByte fun _ hp => hf.cell hp).more sByte fun _ hp => ⟨Nat.lt_of_lt_of_le hp hf.size, ho.far (Nat.lt_of_lt_of_le hp hb)⟩⟩
theorem mail_one {m : Ml} {A' : Option Addr} {n' c' : Nat} : ∀ u ∈ ([.int .i64 m.frm, .int .i64 m.to, .int .i64 m.f.kind, .int .i64 m.f.h.frm, .int .i64 m.f.h.seq, .int .i64 m.f.h.to, .int .i64 m.f.h.till, .int .i64 m.f.h.bytes, .int .i64 m.f.h.block, .int .i64 m.f.s.id, .slice A' n' c', .int .i64 m.f.n, .int .i64 m.f.try_] : List Value), u.oneCell' = true := by
  intro u hu
  simp only [List.mem_cons, List.not_mem_nil, or_false] at hu
  rcases hu with rfl | rfl | rfl | rfl | rfl | rfl | rfl | rfl | rfl | rfl | rfl | rfl | rfl <;> rfl

set_option maxRecDepth 100000 in
set_option maxHeartbeats 4000000 in
theorem waySays_any (w : World) (A : Option Addr) (n c : Nat) (ls : List Ml) (h : Sl 13 eMl w (LT w.heap.size) A n ls) (hm : n * 120 ≤ lim) (hc : n ≤ c) (hcm : c ≤ maxLen) (m : Ml) (A' : Option Addr) (n' c' : Nat) (hw : m.wf) (hy : Byt w (LT w.heap.size) A' n' c' m.f.s.data) (k : Int) (wk : wfI k) (b : Bool) (A4 : Option Addr) (n4 c4 : Nat) (ys : List Ml) (h4 : Sl 13 eMl w (LT w.heap.size) A4 n4 ys) :
    Calls Try.prog 11 #[.slice A n c, .agg #[.int .i64 m.frm, .int .i64 m.to, .int .i64 m.f.kind, .int .i64 m.f.h.frm, .int .i64 m.f.h.seq, .int .i64 m.f.h.to, .int .i64 m.f.h.till, .int .i64 m.f.h.bytes, .int .i64 m.f.h.block, .int .i64 m.f.s.id, .slice A' n' c', .int .i64 m.f.n, .int .i64 m.f.try_], .int .i64 k, .bool b, .slice A4 n4 c4] w fun e w' => e = .returned (.bool true) ∧ Fr w w' := by
  have H := Lib.hid h
  have H4 := Lib.hid h4
  have Hy := Lib.hid hy
  have Hm := Lib.hid hm
  have Hl := Lib.hid h.1
  have hnl : Hid (n ≤ lim) := by rw [Hid]; omega
  have hnm : Hid (n ≤ maxLen) := by rw [Hid]; unfold maxLen; unfold lim at hm; omega
  have hnx : (n : Int) ≤ 9223372036854775807 := by unfold lim at hm; omega
  obtain ⟨p1, p2, p3⟩ := mlSend_parts (ls := ls) (m := m)
  have SD := Lib.hid (fun W A n c h hm A' n' c' hw hy => waySend_any W A n c ls h hm m A' n' c' hw hy)
  have TK := Lib.hid (fun W A n c h hm hc hcm => wayTake_any W A n c ls h hm hc hcm k wk b)
  have CK := Lib.hid (fun W A n c hs hn => wayCheck_any W A n c ls hs hn)
  have RM := Lib.hid (fun W A n c hs hn => refMail_any W A n c ls hs hn)
  have RM1 := Lib.hid (fun W A n c hs hn => refMail_any W A n c [m] hs hn)
  obtain ⟨r, hr⟩ : ∃ r, r = mlCheck ls := ⟨_, rfl⟩
  obtain ⟨s, hs⟩ : ∃ s, s = mlCheck [m] := ⟨_, rfl⟩
  obtain ⟨q, hq⟩ : ∃ q, q = (mlSend ls m).2 := ⟨_, rfl⟩
  obtain ⟨a, ha⟩ : ∃ a, a = (mlSend ls m).1 := ⟨_, rfl⟩
  obtain ⟨wt, hwt⟩ : ∃ wt, wt = mlWant ls m := ⟨_, rfl⟩
  obtain ⟨t1, ht1⟩ : ∃ t, t = (mlTake ls k b).1 := ⟨_, rfl⟩
  obtain ⟨t2, ht2⟩ : ∃ t, t = (mlTake ls k b).2.1 := ⟨_, rfl⟩
  obtain ⟨t3, ht3⟩ : ∃ t, t = (mlTake ls k b).2.2 := ⟨_, rfl⟩
  rw [← hr, ← hs, ← hq] at p1
  rw [← hq, ← ha] at p2 p3
  rw [← hwt] at p3
  rw [← hq, ← ha] at SD
  rw [← ht1, ← ht2, ← ht3] at TK
  rw [← hr] at CK RM
  rw [← hs] at RM1
  have e3 : (r != r) = false := by simp
  (have H := Lib.hid h; clear h; have H4 := Lib.hid h4; clear h4; have Hy := Lib.hid hy; clear hy; have Hm := Lib.hid hm; clear hm; have Hr := Lib.hid hr; clear hr; have Hs := Lib.hid hs; clear hs; have Hq := Lib.hid hq; clear hq; have Ha := Lib.hid ha; clear ha; have Hwt := Lib.hid hwt; clear hwt; have Ht1 := Lib.hid ht1; clear ht1; have Ht2 := Lib.hid ht2; clear ht2; have Ht3 := Lib.hid ht3; clear ht3; have P1 := Lib.hid p1; clear p1; have P2 := Lib.hid p2; clear p2; have P3 := Lib.hid p3; clear p3)
  go_enter Try.func11, Try.ntmps11
  go_wp2_with fail
  refine (SD.out _ A n c (H.out.go sMl (by (repeat' (first | exact Below.refl _ _ | refine below_drewN ?_ _ | refine Below.drew ?_ | refine frA ?_ _)))) Hm.out A' n' c' hw (Hy.out.go (by (repeat' (first | exact Below.refl _ _ | refine below_drewN ?_ _ | refine Below.drew ?_ | refine frA ?_ _))))).mono ?_
  rintro e w1 ⟨v1, rfl, ho1, hf1⟩
  obtain ⟨A1, c1, rfl, ⟨hc1, hx1⟩, hs1⟩ := ho1.slC sMl (by decide)
  have HF1 : Hid (Fr w w1) := Fr.trans (frAlloc _ _) hf1
  have HX1 := Lib.hid (blk_go (heap_new (w := w) rfl) hf1)
  have HS1 := Lib.hid hs1
  clear hf1 hs1 ho1
  go_wp2_with fail
  refine (TK.out _ A n c (H.out.go sMl HF1.out) Hm.out hc hcm).mono ?_
  rintro e w2 ⟨v2, A2, n2, c2, rfl, hy2, ho2, hf2⟩
  obtain ⟨B2, d2, rfl, ⟨hd2, hx2⟩, hs2⟩ := ho2.slC sMl (by decide)
  have HY2 := Lib.hid hy2
  have HF2 := Lib.hid hf2
  have HS2 := Lib.hid hs2
  clear hf2 hs2 ho2 hy2
  go_wp2_with fail
  refine (RM.out _ A n c (H.out.go sMl (by (repeat' (first | exact Below.refl _ _ | refine below_drewN ?_ _ | refine Below.drew ?_ | refine frA ?_ _ | refine Fr.trans ?_ HF2.out | refine Fr.trans ?_ HF1.out)))) hnl.out).mono ?_
  rintro e w3 ⟨rfl, hf3⟩
  have HB3 := Lib.hid (blk_go (heap_new (w := w2) rfl) hf3)
  have HF3 : Hid (Fr w2 w3) := Fr.trans (frAlloc _ _) hf3
  clear hf3
  go_wp2_with fail
  refine (posted_any _).mono ?_
  rintro e w4 ⟨rfl, hf4⟩
  (have Hf4 := Lib.hid hf4; clear hf4)
  go_wp2_with fail
  refine (CK.out _ A n c (H.out.go sMl (by (repeat' (first | exact Below.refl _ _ | refine below_drewN ?_ _ | refine Below.drew ?_ | refine frA ?_ _ | refine Fr.trans ?_ Hf4.out | refine Fr.trans ?_ HF3.out | refine Fr.trans ?_ HF2.out | refine Fr.trans ?_ HF1.out)))) hnl.out).mono ?_
  rintro e w5 ⟨rfl, hf5⟩
  (have Hf5 := Lib.hid hf5; clear hf5)
  go_wp2_with fail
  refine (waySame_any _ _ _ _ _ _ _ ls ys (H.out.go sMl (by (repeat' (first | exact Below.refl _ _ | refine below_drewN ?_ _ | refine Below.drew ?_ | refine frA ?_ _ | refine Fr.trans ?_ Hf5.out | refine Fr.trans ?_ Hf4.out | refine Fr.trans ?_ HF3.out | refine Fr.trans ?_ HF2.out | refine Fr.trans ?_ HF1.out)))) (H4.out.go sMl (by (repeat' (first | exact Below.refl _ _ | refine below_drewN ?_ _ | refine Below.drew ?_ | refine frA ?_ _ | refine Fr.trans ?_ Hf5.out | refine Fr.trans ?_ Hf4.out | refine Fr.trans ?_ HF3.out | refine Fr.trans ?_ HF2.out | refine Fr.trans ?_ HF1.out)))) hnm.out).mono ?_
  rintro e w6 ⟨rfl, hf6⟩
  (have Hf6 := Lib.hid hf6; clear hf6)
  go_wp2_with fail
  refine (refSame_any _ _ _ _ _ _ _ ls ys (H.out.go sMl (by (repeat' (first | exact Below.refl _ _ | refine below_drewN ?_ _ | refine Below.drew ?_ | refine frA ?_ _ | refine Fr.trans ?_ Hf6.out | refine Fr.trans ?_ Hf5.out | refine Fr.trans ?_ Hf4.out | refine Fr.trans ?_ HF3.out | refine Fr.trans ?_ HF2.out | refine Fr.trans ?_ HF1.out)))) (H4.out.go sMl (by (repeat' (first | exact Below.refl _ _ | refine below_drewN ?_ _ | refine Below.drew ?_ | refine frA ?_ _ | refine Fr.trans ?_ Hf6.out | refine Fr.trans ?_ Hf5.out | refine Fr.trans ?_ Hf4.out | refine Fr.trans ?_ HF3.out | refine Fr.trans ?_ HF2.out | refine Fr.trans ?_ HF1.out)))) hnm.out).mono ?_
  rintro e w7 ⟨rfl, hf7⟩
  have HB7 := Lib.hid (blk_go (blk_go (blk_go (blk_go HB3.out Hf4.out) Hf5.out) Hf6.out) hf7)
  have HX7 := Lib.hid (blk_go (blk_go (blk_go (blk_go (blk_go (blk_go HX1.out HF2.out) HF3.out) Hf4.out) Hf5.out) Hf6.out) hf7)
  have HF7 : Hid (Fr w1 w7) := (((((HF2.out.trans HF3.out).trans Hf4.out).trans Hf5.out).trans Hf6.out).trans hf7)
  have HW7 : Hid (Fr w w7) := HF1.out.trans HF7.out
  have HY7 := Lib.hid (HY2.out.go (((((HF3.out).trans Hf4.out).trans Hf5.out).trans Hf6.out).trans hf7))
  have HS27 := Lib.hid (HS2.out.go sMl (((((HF3.out).trans Hf4.out).trans Hf5.out).trans Hf6.out).trans hf7))
  have HS17 := Lib.hid (HS1.out.go sMl HF7.out)
  clear hf7 HX1 HB3 HY2 HS2 HS1 Hf4 Hf5 Hf6 HF7 HF3 HF2
  go_upto_if 55 with fail
  go_cut [17] (fun s17 wx => s17 = .int .i64 q ∧ Hid (Fr w7 wx))
  case first =>
    by_cases h0 : r = 0
    · have e5 : (r == 0) = true := by simp [h0]
      have hx7 := HX7.out
      have hxl := blk_lt5 hx7
      (obtain ⟨hq0, hq1, hq2, hq3, hq4, hq5, hq6, hq7, hq8, hq9, hq10, hq11, hq12⟩ := box13_ hx7)
      have hsq : Hid (s = q) := by rw [Hid, P1.out, if_pos h0]
      clear hx7
      (have H0 := Lib.hid h0; clear h0)
      go_wp2_with fail
      refine (RM1.out _ _ 1 _ (Sl.mail (m := m) (heap_new rfl) (LTnew w7 _) hw (Hy.out.go (HW7.out.trans (frAlloc _ _)))) (by unfold lim; omega)).mono ?_
      rintro e w8 ⟨rfl, hf8⟩
      have HF8 : Hid (Fr w7 w8) := Fr.trans (frAlloc _ _) hf8
      clear hf8
      go_wp2_with fail
      go_meet
      exact ⟨by rw [hsq.out], HF8⟩
    · have e5 : (r == 0) = false := by simp [h0]
      have hrq : Hid (r = q) := by rw [Hid, P1.out, if_neg h0]
      (have H0 := Lib.hid h0; clear h0)
      go_wp2_with fail
      go_meet
      exact ⟨by rw [hrq.out], Below.refl _ _⟩
  case rest =>
    obtain ⟨rfl, HC1⟩ := hcut
    go_upto_if 62 with fail
    go_cut [18] (fun s18 wx => ∃ B6 n6 d6, s18 = .slice B6 n6 d6 ∧ Hid (n6 ≤ maxLen) ∧ Hid (Sl 13 eMl wx (LT wx.heap.size) B6 n6 wt) ∧ Hid (Fr w7 wx))
    case first =>
      by_cases h40 : n < 40
      · have t40 : decide ((n : Int) < 40) = true := by simp; omega
        have hwt2 : Hid (wt = ls ++ [m]) := by rw [Hid, Hwt.out, mlWant, if_pos (by rw [Hl.out]; exact h40)]
        have hx7 := blk_go HX7.out HC1.out
        have hxl := blk_lt5 hx7
        (obtain ⟨hq0, hq1, hq2, hq3, hq4, hq5, hq6, hq7, hq8, hq9, hq10, hq11, hq12⟩ := box13_ hx7)
        have HWC : Hid (Fr w wc) := HW7.out.trans HC1.out
        have HL1 : Hid (ls.length + 1 ≤ maxLen) := by rw [Hid, Hl.out]; unfold maxLen; omega
        have HL2 : Hid ((ls.length + 1) * 120 ≤ lim) := by rw [Hid, Hl.out]; unfold lim; omega
        (have Hx7 := Lib.hid hx7; clear hx7)
        go_wp2_with fail
        clear HB7 HY7 HS27 HS17 HX7 SD TK CK RM RM1 H4 Hs Hq Ha Hr Hwt Ht1 Ht2 Ht3 P1 P2 P3 HF1
        go_region_law (first
          | ((with_reducible refine step_pick (n := 64) rfl ?_); go_simp; go_at_call 53; (with_reducible refine (cloneMails_any _ A n c ls (H.out.go sMl (by (repeat' (first | exact Below.refl _ _ | refine below_drewN ?_ _ | refine Below.drew ?_ | refine frA ?_ _ | refine Fr.trans ?_ HWC.out)))) Hm.out).mono ?_); rintro e w8 ⟨v8, rfl, ho8, hf8⟩; have hb8 : w8.heap[w.heap.size]? = some (.cells #[.int .i64 m.frm, .int .i64 m.to, .int .i64 m.f.kind, .int .i64 m.f.h.frm, .int .i64 m.f.h.seq, .int .i64 m.f.h.to, .int .i64 m.f.h.till, .int .i64 m.f.h.bytes, .int .i64 m.f.h.block, .int .i64 m.f.s.id, .slice A' n' c', .int .i64 m.f.n, .int .i64 m.f.try_] 73 (0, 0)) := blk_go (by (repeat' (with_reducible (first | (refine heap_new ?_; (first | (simp; done) | rfl); done) | refine heap_dn ?_ | refine heap_d ?_ | refine heap_old ?_))); exact Hx7.out) hf8; have hl8 := blk_lt5 hb8; (obtain ⟨hr0, hr1, hr2, hr3, hr4, hr5, hr6, hr7, hr8, hr9, hr10, hr11, hr12⟩ := box13_ hb8); have HO8 : Hid (Own 13 eMl w8 wc.heap.size 73 v8 ls) := ho8.lower (by simp); have HQ8 := Lib.hid hf8; have HF8 : Hid (Fr wc w8) := Fr.trans (by (repeat' (first | exact Below.refl _ _ | refine below_drewN ?_ _ | refine Below.drew ?_ | refine frA ?_ _))) hf8; have HY8 := Lib.hid (mail_beside hw Hy.out (HWC.out.trans HF8.out) HO8.out HWC.out.size); have HZ8 : Hid (Below wc.heap.size wc w8) := HF8.out; clear ho8 hf8 hb8)
          | ((with_reducible refine step_pick (n := 67) rfl ?_); (refine step_app1 (by rfl) (.tmp 64) (.tmp 66) 67 (by rfl) wc.heap.size 73 (.agg #[.int .i64 0, .int .i64 0, .int .i64 0, .int .i64 0, .int .i64 0, .int .i64 0, .int .i64 0, .int .i64 0, .int .i64 0, .int .i64 0, .slice none 0 0, .int .i64 0, .int .i64 0]) 120 Try.underlying67 infoMail rfl (by decide) sMl w8 (by first | exact Below.refl _ _ | exact frAlloc _ _) v8 ls (by rfl) HO8.out _ [.int .i64 m.frm, .int .i64 m.to, .int .i64 m.f.kind, .int .i64 m.f.h.frm, .int .i64 m.f.h.seq, .int .i64 m.f.h.to, .int .i64 m.f.h.till, .int .i64 m.f.h.bytes, .int .i64 m.f.h.block, .int .i64 m.f.s.id, .slice A' n' c', .int .i64 m.f.n, .int .i64 m.f.try_] 73 (0, 0) (by rfl) (by first | exact heap_new rfl | exact blk_go (heap_d (heap_new (by first | rfl | simp))) HQ8.out | exact blk_go (heap_new (by first | rfl | simp)) HQ8.out) rfl mail_one m HY8.out HL1.out HL2.out wc.heap.size wc HZ8.out (Nat.le_refl _) HF8.out.size ?_); intro v9 w9 HO9 HF9))
        all_goals
          obtain ⟨B9, d9, rfl, ⟨hd9, hx9⟩, hs9⟩ := HO9.out.slC sMl (by decide)
          have HS9 := Lib.hid hs9
          have HN9 : Hid ((ls ++ [m]).length ≤ maxLen) := Nat.le_trans hd9 hx9
          clear hs9 HO9
          go_wp2_with fail
          go_meet
          exact ⟨_, _, _, rfl, HN9, by rw [hwt2.out]; exact HS9.out, HC1.out.trans HF9.out⟩
      · have t40 : decide ((n : Int) < 40) = false := by simp; omega
        have hwt2 : Hid (wt = ls) := by rw [Hid, Hwt.out, mlWant, if_neg (by rw [Hl.out]; exact h40)]
        go_wp2_with fail
        go_meet
        exact ⟨_, _, _, rfl, hnm, by rw [hwt2.out]; exact H.out.go sMl (HW7.out.trans HC1.out), HC1⟩
    case rest =>
      obtain ⟨B6, n6, d6, rfl, HN6, HS6, HC2⟩ := hcut
      go_upto_region 12 with fail
      go_cut [89] (fun s89 wx => s89 = .bool false ∧ Hid (Fr w7 wx))
      case first =>
        have e6 : (q != q) = false := by simp
        by_cases hq0 : q = 0
        · have e7 : (q != 0) = false := by simp [hq0]
          have e8 : (q == 0) = true := by simp [hq0]
          have ha2 : Hid (Sl 13 eMl w7 (LT w7.heap.size) A1 a.length wt) := by rw [Hid, ← P3.out hq0]; exact HS17.out
          have hal : a.length ≤ maxLen := by omega
          clear hq0
          go_wp2_with fail
          refine (refSame_eq _ _ _ _ _ _ _ wt (ha2.out.go sMl HC2.out) HS6.out hal).mono ?_
          rintro e w8 ⟨rfl, hf8⟩
          have HF8 : Hid (Fr w7 w8) := HC2.out.trans hf8
          clear hf8
          go_wp2_with fail
          go_meet
          exact ⟨rfl, HF8⟩
        · have e7 : (q != 0) = true := by simp [hq0]
          have e8 : (q == 0) = false := by simp [hq0]
          have el : decide ((0 : Int) < (a.length : Int)) = false := by rw [P2.out hq0]; rfl
          have el2 : decide (0 < a.length) = false := by rw [P2.out hq0]; rfl
          clear hq0
          go_wp2_with fail
          go_meet
          exact ⟨rfl, HC2⟩
      case rest =>
        obtain ⟨rfl, HC3⟩ := hcut
        have hb7 := blk_go HB7.out HC3.out
        have hl7 := blk_lt5 hb7
        clear HX7 HS17 HS6 SD TK CK RM RM1 HC1 HC2
        by_cases hr0 : r = 0
        · have e7 : (r != 0) = false := by simp [hr0]
          have e8 : (r == 0) = true := by simp [hr0]
          have HR0 : Hid (mlCheck ls = 0) := by rw [Hid, ← Hr.out]; exact hr0
          clear hr0
          by_cases hk : k < 0 ∨ (n : Int) ≤ k
          · have E : mlTake ls k b = ([], mlZero, 5) := by unfold mlTake; rw [if_neg (by rw [HR0.out]; simp), if_pos (by rw [Hl.out]; exact hk)]
            obtain rfl : t1 = [] := by rw [Ht1.out, E]
            obtain rfl : t2 = mlZero := by rw [Ht2.out, E]
            obtain rfl : t3 = 5 := by rw [Ht3.out, E]
            (obtain ⟨hp0, hp1, hp2, hp3, hp4, hp5, hp6, hp7, hp8, hp9, hp10, hp11, hp12⟩ := box13_ hb7)
            clear E hb7 Ht1 Ht2 Ht3
            by_cases hk0 : k < 0
            · have e9 : decide (k < 0) = true := by simp [hk0]
              clear hk hk0
              go_wp2_with fail
              refine (refZero _ A2 n2 c2 (HY7.out.go HC3.out) byt_nil).mono ?_
              rintro e w8 ⟨rfl, hf8⟩
              have HF8 := Lib.hid hf8
              clear hf8
              go_wp2_with fail
              go_ret
              exact ⟨by first | rfl | simp, HW7.out.trans (HC3.out.trans HF8.out)⟩
            · have e9 : decide (k < 0) = false := by simp [hk0]
              have e10 : decide ((n : Int) ≤ k) = true := by simp; omega
              clear hk hk0
              go_wp2_with fail
              refine (refZero _ A2 n2 c2 (HY7.out.go HC3.out) byt_nil).mono ?_
              rintro e w8 ⟨rfl, hf8⟩
              have HF8 := Lib.hid hf8
              clear hf8
              go_wp2_with fail
              go_ret
              exact ⟨by first | rfl | simp, HW7.out.trans (HC3.out.trans HF8.out)⟩
          · obtain ⟨kk, rfl⟩ : ∃ kk : Nat, k = (kk : Int) := ⟨k.toNat, by omega⟩
            have hkn : kk < n := by omega
            obtain ⟨x, hx⟩ : ∃ x, ls[kk]? = some x := ⟨_, List.getElem?_eq_getElem (by rw [Hl.out]; exact hkn)⟩
            have E : mlTake ls kk b = (if b then ls else ls.eraseIdx kk, x, 0) := by
              unfold mlTake; rw [if_neg (by rw [HR0.out]; simp), if_neg (by rw [Hl.out]; omega)]; simp [List.getD, hx]
            have HLF : Hid (t1 = if b then ls else ls.eraseIdx kk) := by rw [Hid, Ht1.out, E]
            obtain rfl : t2 = x := by rw [Ht2.out, E]
            obtain rfl : t3 = 0 := by rw [Ht3.out, E]
            have e10 : decide ((n : Int) ≤ (kk : Int)) = false := by simp; omega
            have e11 : decide (n ≤ kk) = false := by simp; omega
            have HX := Lib.hid hx
            clear E hk Ht1 Ht2 Ht3 hx HR0
            have hwk : IntKind.i64.wrap ((kk : Int) + 1) = (kk : Int) + 1 := IntWalk.i64_in _ (by omega)
            have HWK := Lib.hid hwk
            clear hb7 hwk
            go_wp2_with fail
            (with_reducible refine (cloneMails_any _ A n c ls (H.out.go sMl (by (repeat' (first | exact Below.refl _ _ | refine below_drewN ?_ _ | refine Below.drew ?_ | refine frA ?_ _ | refine Fr.trans ?_ HC3.out | refine Fr.trans ?_ HW7.out)))) Hm.out).mono ?_)
            rintro e w8 ⟨v8, rfl, ho8, hf8⟩
            have HOb : Hid (∀ k, v8.ownBlock = some k → w7.heap.size ≤ k) := fun k hk => by
              obtain ⟨cs, ho, _⟩ := ho8
              have h1 := (ho.lt k hk).1
              have h2 := HC3.out.size
              omega
            have HO8 := Lib.hid ho8
            have HF8 : Hid (Fr w7 w8) := HC3.out.trans hf8
            clear ho8 hf8
            go_upto_if 122 with fail
            go_cut [19] (fun s19 wx => ∃ B9 n9 d9, s19 = .slice B9 n9 d9 ∧ Hid (Sl 13 eMl wx (LT wx.heap.size) B9 n9 t1) ∧ Hid (Fr w7 wx))
            case first =>
              cases b with
              | true =>
                have hl9 : Hid (t1 = ls) := HLF.out
                obtain ⟨B8, d8, rfl, ⟨hd8, hx8⟩, hs8⟩ := HO8.out.slC sMl (by decide)
                have HS8 := Lib.hid hs8
                clear hs8
                go_wp2_with fail
                go_meet
                exact ⟨_, _, _, rfl, by rw [hl9.out]; exact HS8.out, HF8⟩
              | false =>
                have hl9 : Hid (t1 = ls.eraseIdx kk) := HLF.out
                have hkl : Hid (kk < ls.length) := by rw [Hid, Hl.out]; exact hkn
                go_wp2_with fail
                (with_reducible refine (deleteMails_ownR _ _ kk (fun _ => True) _ ls (HO8.out.ownR sMl) hkl.out).mono ?_)
                rintro e w9 ⟨v9, rfl, ho9, hg9⟩
                obtain ⟨B8, d8, rfl, ⟨hd8, hx8⟩, hs8⟩ := (ho9.own sMl).slC sMl (by decide)
                have HS8 := Lib.hid hs8
                have HF9 : Hid (Fr w7 w9) := HF8.out.grown hg9 HF8.out.size HOb.out
                clear hs8 hg9 ho9
                go_wp2_with fail
                go_meet
                exact ⟨_, _, _, rfl, by rw [hl9.out]; exact HS8.out, HF9⟩
            case rest =>
              obtain ⟨B9, n9, d9, rfl, HS9, HC9⟩ := hcut
              have hb9 := blk_go HB7.out HC9.out
              have hl9 := blk_lt5 hb9
              (obtain ⟨hp0, hp1, hp2, hp3, hp4, hp5, hp6, hp7, hp8, hp9, hp10, hp11, hp12⟩ := box13_ hb9)
              have HY9 := Lib.hid (HY7.out.go HC9.out)
              have HS29 := Lib.hid (HS27.out.go sMl HC9.out)
              have HW9 : Hid (Fr w wc) := HW7.out.trans HC9.out
              obtain ⟨ad, rfl, hE1⟩ := H.out.els (by omega)
              have hck : ¬ c = kk := by omega
              have HSUB : Hid (Sl 13 eMl w (LT w.heap.size) (some (ad.add (kk * 13))) 1 [t2]) := by
                have h1 := (H.out.cut (k := kk) (cap := c) (by omega) hc).pre (k := 1) (by omega)
                rw [if_neg hck, drop_cons HX.out] at h1
                exact h1
              have hkc : kk + 1 ≤ c := by omega
              have hki : (kk : Int) + 1 ≤ (n : Int) := by omega
              have hkcI : (kk : Int) + 1 ≤ (c : Int) := by omega
              have hk00 : (0 : Int) ≤ (kk : Int) + 1 := by omega
              have hkk1 : (kk : Int) ≤ (kk : Int) + 1 := by omega
              have hwx : Hid t2.wf := by
                obtain ⟨x', hx', hr'⟩ := hE1.row hkn
                obtain rfl : t2 = x' := by have := HX.out.symm.trans hx'; injection this
                exact (eMl_at hr').choose_spec.choose_spec.choose_spec.2.1
              have hn1 : 1 ≤ maxLen := by unfold maxLen; omega
              have htl : Hid (t1.length ≤ maxLen) := by rw [Hid]; omega
              have KEY : Hid (Calls Try.prog 52 #[.slice (some ⟨wc.heap.size, 0, none⟩) 1 1, .slice (some (ad.add (kk * 13))) 1 (c - kk)] (wc.alloc (.cells #[.int .i64 t2.frm, .int .i64 t2.to, .int .i64 t2.f.kind, .int .i64 t2.f.h.frm, .int .i64 t2.f.h.seq, .int .i64 t2.f.h.to, .int .i64 t2.f.h.till, .int .i64 t2.f.h.bytes, .int .i64 t2.f.h.block, .int .i64 t2.f.s.id, .slice A2 n2 c2, .int .i64 t2.f.n, .int .i64 t2.f.try_] 73)).drew (fun e w' => e = .returned (.bool true) ∧ Fr wc w')) := by
                have hb : ((wc.alloc (.cells #[.int .i64 t2.frm, .int .i64 t2.to, .int .i64 t2.f.kind, .int .i64 t2.f.h.frm, .int .i64 t2.f.h.seq, .int .i64 t2.f.h.to, .int .i64 t2.f.h.till, .int .i64 t2.f.h.bytes, .int .i64 t2.f.h.block, .int .i64 t2.f.s.id, .slice A2 n2 c2, .int .i64 t2.f.n, .int .i64 t2.f.try_] 73)).drew.heap)[wc.heap.size]? = some (.cells #[.int .i64 t2.frm, .int .i64 t2.to, .int .i64 t2.f.kind, .int .i64 t2.f.h.frm, .int .i64 t2.f.h.seq, .int .i64 t2.f.h.to, .int .i64 t2.f.h.till, .int .i64 t2.f.h.bytes, .int .i64 t2.f.h.block, .int .i64 t2.f.s.id, .slice A2 n2 c2, .int .i64 t2.f.n, .int .i64 t2.f.try_] 73 (0, 0)) := heap_d (heap_new rfl)
                have hA : Fr wc (wc.alloc (.cells #[.int .i64 t2.frm, .int .i64 t2.to, .int .i64 t2.f.kind, .int .i64 t2.f.h.frm, .int .i64 t2.f.h.seq, .int .i64 t2.f.h.to, .int .i64 t2.f.h.till, .int .i64 t2.f.h.bytes, .int .i64 t2.f.h.block, .int .i64 t2.f.s.id, .slice A2 n2 c2, .int .i64 t2.f.n, .int .i64 t2.f.try_] 73)).drew := (frAlloc _ _).drew
                refine (refSame_eq _ (some ⟨wc.heap.size, 0, none⟩) (some (ad.add (kk * 13))) 1 1 1 (c - kk) [t2] (Sl.mail (m := t2) (A := A2) (n := n2) (c := c2) hb (blk_LT hb) hwx.out (HY9.out.go hA)) (HSUB.out.go sMl (HW9.out.trans hA)) hn1).mono ?_
                rintro e w8 ⟨rfl, h8⟩
                exact ⟨rfl, hA.trans h8⟩
              have hwt : ((kk : Int) + 1).toNat = kk + 1 := by omega
              have hwk := HWK.out
              have HB9 := Lib.hid hb9
              clear hb9 e10 e11 hn1 hnx HWK wk hd2 hx2 hc1 hx1 hE1 HB7 HY7 HS27 HLF HX HO8 HOb HF8 HC3 HN6 H HSUB
              go_wp2_with fail
              go_region_held3 (fun w' => w'.cell? ⟨w2.heap.size, 0, none⟩ = some (.int .i64 t2.frm) ∧ w'.cell? ⟨w2.heap.size, 1, none⟩ = some (.int .i64 t2.to) ∧ w'.cell? ⟨w2.heap.size, 2, none⟩ = some (.int .i64 t2.f.kind) ∧ w'.cell? ⟨w2.heap.size, 3, none⟩ = some (.int .i64 t2.f.h.frm) ∧ w'.cell? ⟨w2.heap.size, 4, none⟩ = some (.int .i64 t2.f.h.seq) ∧ w'.cell? ⟨w2.heap.size, 5, none⟩ = some (.int .i64 t2.f.h.to) ∧ w'.cell? ⟨w2.heap.size, 6, none⟩ = some (.int .i64 t2.f.h.till) ∧ w'.cell? ⟨w2.heap.size, 7, none⟩ = some (.int .i64 t2.f.h.bytes) ∧ w'.cell? ⟨w2.heap.size, 8, none⟩ = some (.int .i64 t2.f.h.block) ∧ w'.cell? ⟨w2.heap.size, 9, none⟩ = some (.int .i64 t2.f.s.id) ∧ w'.cell? ⟨w2.heap.size, 10, none⟩ = some (.slice A2 n2 c2) ∧ w'.cell? ⟨w2.heap.size, 11, none⟩ = some (.int .i64 t2.f.n) ∧ w'.cell? ⟨w2.heap.size, 12, none⟩ = some (.int .i64 t2.f.try_)) (first | exact box13_ (blk_go (blk_go HB9.out HF10.out) HF11.out) | exact box13_ (blk_go HB9.out HF10.out) | exact ⟨hp0, hp1, hp2, hp3, hp4, hp5, hp6, hp7, hp8, hp9, hp10, hp11, hp12⟩ | go_keep) (first
                | (go_at_call 52; (with_reducible refine (KEY.out).mono ?_); rintro e w10 ⟨rfl, hf10⟩; have HF10 : Hid (Fr wc w10) := hf10; clear hf10)
                | (go_at_call 52; (with_reducible refine (refSame_eq _ _ _ _ _ _ _ t1 (HS29.out.go sMl HF10.out) (HS9.out.go sMl HF10.out) htl.out).mono ?_); rintro e w11 ⟨rfl, hf11⟩; have HF11 := Lib.hid hf11; clear hf11)
                | fail)
              all_goals
                go_wp2_with fail
                go_ret
                exact ⟨by first | rfl | simp, by (repeat' (first | exact Below.refl _ _ | refine below_drewN ?_ _ | refine Below.drew ?_ | refine frA ?_ _ | refine Fr.trans ?_ HF11.out | refine Fr.trans ?_ HF10.out | refine Fr.trans ?_ HW9.out))⟩
        · have e7 : (r != 0) = true := by simp [hr0]
          have e8 : (r == 0) = false := by simp [hr0]
          have e9 : (r == r) = true := by simp
          have E : mlTake ls k b = ([], mlZero, r) := by unfold mlTake; rw [if_pos (by rw [← Hr.out]; exact hr0), ← Hr.out]
          obtain rfl : t1 = [] := by rw [Ht1.out, E]
          obtain rfl : t2 = mlZero := by rw [Ht2.out, E]
          obtain rfl : r = t3 := by rw [Ht3.out, E]
          (obtain ⟨hp0, hp1, hp2, hp3, hp4, hp5, hp6, hp7, hp8, hp9, hp10, hp11, hp12⟩ := box13_ hb7)
          clear E hb7 hr0 Ht1 Ht2 Ht3
          go_wp2_with fail
          refine (refZero _ A2 n2 c2 (HY7.out.go HC3.out) byt_nil).mono ?_
          rintro e w8 ⟨rfl, hf8⟩
          have HF8 := Lib.hid hf8
          clear hf8
          go_wp2_with fail
          go_ret
          exact ⟨by first | rfl | simp, HW7.out.trans (HC3.out.trans HF8.out)⟩
end Go.Proofs.Ytahkpbenebmmdaa
