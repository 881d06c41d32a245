/- 'NoteSays' answers true for every input, and leaves its arguments as they were; the card: what the row lists is tied to the program's text. No condition. -/
import Derived.Test.YtkfpgnoodhlfgaaDoorMNSE
import Derived.Test.YtkfpgnoodhlfgaaDoorEq
import Derived.Test.YtkfpgnoodhlfgaaDoorEqHd
import Derived.Test.YtkfpgnoodhlfgaaDoorBox
import Derived.Deep.DeepCutAuto
import Derived.Deep.Cut
import Derived.Test.YtkfpgnoodhlfgaaDoorMNSF
import Derived.Test.YtkfpgnoodhlfgaaDoorOpenT
import Derived.Test.YtkfpgnoodhlfgaaDoorLaid
import Derived.ProofKit
import Derived.OpenShut
set_option linter.unusedSimpArgs false
set_option linter.unusedVariables false
namespace Go.Proofs.YtkfpgnoodhlfgaaDoor
open Go.RowKit
attribute [local irreducible] wpList

set_option maxRecDepth 100000 in
set_option maxHeartbeats 8000000 in
theorem refSameRec_any (w : World) (a b : Rc) (S T : Nat → Prop) (A : Option Addr) (na ca : Nat) (A2 : Option Addr) (na2 ca2 : Nat) (B : Option Addr) (nb cb : Nat) (B2 : Option Addr) (nb2 cb2 : Nat) (hA : Byt w (LT w.heap.size) A na ca a.s.data) (hA2 : Byt w (LT w.heap.size) A2 na2 ca2 a.cargo) (hB : Byt w (LT w.heap.size) B nb cb b.s.data) (hB2 : Byt w (LT w.heap.size) B2 nb2 cb2 b.cargo) :
    Calls Tryd.prog 14 #[.agg #[.int .i64 a.kind, .int .i64 a.place, .int .i64 a.n, .int .i64 a.try_, .int .i64 a.h.frm, .int .i64 a.h.seq, .int .i64 a.h.to, .int .i64 a.h.till, .int .i64 a.h.bytes, .int .i64 a.h.block, .int .i64 a.s.id, .slice A na ca, .slice A2 na2 ca2], .agg #[.int .i64 b.kind, .int .i64 b.place, .int .i64 b.n, .int .i64 b.try_, .int .i64 b.h.frm, .int .i64 b.h.seq, .int .i64 b.h.to, .int .i64 b.h.till, .int .i64 b.h.bytes, .int .i64 b.h.block, .int .i64 b.s.id, .slice B nb cb, .slice B2 nb2 cb2]] w fun e w' => e = .returned (.bool (decide (a = b))) ∧ Fr w w' := by
  obtain ⟨X, hX⟩ : ∃ X, X = decide (a = b) := ⟨_, rfl⟩
  rw [← hX]
  obtain ⟨W1, hW1⟩ : ∃ W1, W1 = (w.alloc (.cells #[.int .i64 a.kind, .int .i64 a.place, .int .i64 a.n, .int .i64 a.try_, .int .i64 a.h.frm, .int .i64 a.h.seq, .int .i64 a.h.to, .int .i64 a.h.till, .int .i64 a.h.bytes, .int .i64 a.h.block, .int .i64 a.s.id, .slice A na ca, .slice A2 na2 ca2] 31)).alloc (.cells #[.int .i64 b.kind, .int .i64 b.place, .int .i64 b.n, .int .i64 b.try_, .int .i64 b.h.frm, .int .i64 b.h.seq, .int .i64 b.h.to, .int .i64 b.h.till, .int .i64 b.h.bytes, .int .i64 b.h.block, .int .i64 b.s.id, .slice B nb cb, .slice B2 nb2 cb2] 31) := ⟨_, rfl⟩
  obtain ⟨p, hp⟩ : ∃ p, p = w.heap.size := ⟨_, rfl⟩
  have hp1 : W1.heap[p]? = some (.cells #[.int .i64 a.kind, .int .i64 a.place, .int .i64 a.n, .int .i64 a.try_, .int .i64 a.h.frm, .int .i64 a.h.seq, .int .i64 a.h.to, .int .i64 a.h.till, .int .i64 a.h.bytes, .int .i64 a.h.block, .int .i64 a.s.id, .slice A na ca, .slice A2 na2 ca2] 31 (0, 0)) := by rw [hW1]; exact heap_old (heap_new hp)
  have hq1 : W1.heap[p + 1]? = some (.cells #[.int .i64 b.kind, .int .i64 b.place, .int .i64 b.n, .int .i64 b.try_, .int .i64 b.h.frm, .int .i64 b.h.seq, .int .i64 b.h.to, .int .i64 b.h.till, .int .i64 b.h.bytes, .int .i64 b.h.block, .int .i64 b.s.id, .slice B nb cb, .slice B2 nb2 cb2] 31 (0, 0)) := by rw [hW1]; exact heap_new (by rw [hp]; simp)
  have HF : Hid (Fr w W1) := by rw [hW1]; exact (frAlloc _ _).trans (frAlloc _ _)
  have HQ := Lib.hid hq1
  have HP := Lib.hid hp1
  (obtain ⟨bp0, bp1, bp2, bp3, bp4, bp5, bp6, bp7, bp8, bp9, bp10, bp11, bp12⟩ := box13_ hp1)
  (obtain ⟨bq0, bq1, bq2, bq3, bq4, bq5, bq6, bq7, bq8, bq9, bq10, bq11, bq12⟩ := box13_ hq1)
  clear hp1 hq1
  have hna : na ≤ maxLen := by have := hA.1; omega
  have hna2 : na2 ≤ maxLen := by have := hA2.1; omega
  have E1 : Hid (∀ W, Fr w W → Calls Tryd.prog 30 #[.slice A na ca, .slice B nb cb] W fun e w' => e = .returned (.bool (decide (a.s.data = b.s.data))) ∧ Fr W w') := fun W hf => (equalBlock_any W _ _ A B na ca nb cb _ _ (hA.2.go sByte hf) (hB.2.go sByte hf) hna).mono fun e w' ⟨he, m, hm⟩ => ⟨he, by rw [hm]; exact frDrewN _ _⟩
  have E2 : Hid (∀ W, Fr w W → Calls Tryd.prog 31 #[.slice A2 na2 ca2, .slice B2 nb2 cb2] W fun e w' => e = .returned (.bool (decide (a.cargo = b.cargo))) ∧ Fr W w') := fun W hf => (equalBytes_any W _ _ A2 B2 na2 ca2 nb2 cb2 _ _ (hA2.2.go sByte hf) (hB2.2.go sByte hf) hna2).mono fun e w' ⟨he, m, hm⟩ => ⟨he, by rw [hm]; exact frDrewN _ _⟩
  have hne : ∀ {c : Prop}, (a = b → c) → ¬ c → Hid (X = false) := fun h1 h2 => by rw [Hid, hX]; exact decide_eq_false fun e => h2 (h1 e)
  have HXX := Lib.hid hX
  clear hX hA hA2 hB hB2 hna hna2
  go_enter Tryd.func14, Tryd.ntmps14
  go_upto_region 1 with fail
  rw [← hW1, ← hp]
  clear hW1 hp
  by_cases h1 : a.kind = b.kind
  case neg =>
    have t1 : (a.kind == b.kind) = false := by simp [h1]
    have HX := hne (c := a.kind = b.kind) (fun e => by rw [e]) h1
    clear hne
    go_wp2_with fail
    go_ret
    exact ⟨rcV_false HX.out, HF.out.trans (by (repeat' (first | exact Below.refl _ _ | refine below_drewN ?_ _ | refine Below.drew ?_ | refine frA ?_ _)))⟩
  case pos =>
  have t1 : (a.kind == b.kind) = true := by simp [h1]
  by_cases h2 : a.place = b.place
  case neg =>
    have t2 : (a.place == b.place) = false := by simp [h2]
    have HX := hne (c := a.place = b.place) (fun e => by rw [e]) h2
    clear hne
    go_wp2_with fail
    go_ret
    exact ⟨rcV_false HX.out, HF.out.trans (by (repeat' (first | exact Below.refl _ _ | refine below_drewN ?_ _ | refine Below.drew ?_ | refine frA ?_ _)))⟩
  case pos =>
  have t2 : (a.place == b.place) = true := by simp [h2]
  by_cases h3 : a.n = b.n
  case neg =>
    have t3 : (a.n == b.n) = false := by simp [h3]
    have HX := hne (c := a.n = b.n) (fun e => by rw [e]) h3
    clear hne
    go_wp2_with fail
    go_ret
    exact ⟨rcV_false HX.out, HF.out.trans (by (repeat' (first | exact Below.refl _ _ | refine below_drewN ?_ _ | refine Below.drew ?_ | refine frA ?_ _)))⟩
  case pos =>
  have t3 : (a.n == b.n) = true := by simp [h3]
  by_cases h4 : a.try_ = b.try_
  case neg =>
    have t4 : (a.try_ == b.try_) = false := by simp [h4]
    have HX := hne (c := a.try_ = b.try_) (fun e => by rw [e]) h4
    clear hne
    go_wp2_with fail
    go_ret
    exact ⟨rcV_false HX.out, HF.out.trans (by (repeat' (first | exact Below.refl _ _ | refine below_drewN ?_ _ | refine Below.drew ?_ | refine frA ?_ _)))⟩
  case pos =>
  have t4 : (a.try_ == b.try_) = true := by simp [h4]
  by_cases h5 : a.h = b.h
  case neg =>
    have hq := fun V => (eqHd a.h b.h V).trans (by rw [decide_eq_false h5])
    have HX := hne (c := a.h = b.h) (fun e => by rw [e]) h5
    have HH := Lib.hid h5
    clear h5
    clear hne
    go_wp2_with fail
    go_ret
    exact ⟨rcV_false HX.out, HF.out.trans (by (repeat' (first | exact Below.refl _ _ | refine below_drewN ?_ _ | refine Below.drew ?_ | refine frA ?_ _)))⟩
  case pos =>
  have hq := fun V => (eqHd a.h b.h V).trans (by rw [decide_eq_true h5])
  have HH := Lib.hid h5
  clear h5
  by_cases h6 : a.s.id = b.s.id
  case neg =>
    have t6 : (a.s.id == b.s.id) = false := by simp [h6]
    have HX := hne (c := a.s.id = b.s.id) (fun e => by rw [e]) h6
    clear hne
    go_wp2_with fail
    go_ret
    exact ⟨rcV_false HX.out, HF.out.trans (by (repeat' (first | exact Below.refl _ _ | refine below_drewN ?_ _ | refine Below.drew ?_ | refine frA ?_ _)))⟩
  case pos =>
  have t6 : (a.s.id == b.s.id) = true := by simp [h6]
  obtain ⟨d1, hd1⟩ : ∃ d1, d1 = decide (a.s.data = b.s.data) := ⟨_, rfl⟩
  rw [← hd1] at E1
  obtain ⟨d2, hd2⟩ : ∃ d2, d2 = decide (a.cargo = b.cargo) := ⟨_, rfl⟩
  rw [← hd2] at E2
  have HALL : Hid (X = (d1 && d2)) := by
    rw [Hid, HXX.out, hd1, hd2]
    obtain ⟨_, _, _, _, _, ⟨_, _⟩, _⟩ := a
    obtain ⟨_, _, _, _, _, ⟨_, _⟩, _⟩ := b
    have h5 := HH.out
    simp only at h1 h2 h3 h4 h5 h6
    subst h1 h2 h3 h4 h5 h6
    simp
  have H1 := Lib.hid h1
  have H2 := Lib.hid h2
  have H3 := Lib.hid h3
  have H4 := Lib.hid h4
  have H6 := Lib.hid h6
  clear h1 h2 h3 h4 h6 hne hd1 hd2
  go_wp2_with fail
  (with_reducible refine (E1.out _ HF.out).mono ?_)
  rintro e w2 ⟨rfl, hf2⟩
  have HF2 : Hid (Fr w w2) := HF.out.trans hf2
  have hq2 := blk_go HQ.out hf2
  have hp2 := blk_go HP.out hf2
  clear hf2 bp0 bp1 bp2 bp3 bp4 bp5 bp6 bp7 bp8 bp9 bp10 bp11 bp12 bq0 bq1 bq2 bq3 bq4 bq5 bq6 bq7 bq8 bq9 bq10 bq11 bq12
  (obtain ⟨bp0, bp1, bp2, bp3, bp4, bp5, bp6, bp7, bp8, bp9, bp10, bp11, bp12⟩ := box13_ hp2)
  (obtain ⟨bq0, bq1, bq2, bq3, bq4, bq5, bq6, bq7, bq8, bq9, bq10, bq11, bq12⟩ := box13_ hq2)
  clear hp2 hq2
  cases d1 with
  | false =>
    go_wp2_with fail
    go_ret
    exact ⟨rcV_false HALL.out, HF2.out⟩
  | true =>
    go_wp2_with fail
    (with_reducible refine (E2.out _ HF2.out).mono ?_)
    rintro e w3 ⟨rfl, hf3⟩
    have HF3 : Hid (Fr w w3) := HF2.out.trans hf3
    clear hf3
    go_wp2_with fail
    go_ret
    exact ⟨by rw [HALL.out]; simp, HF3.out⟩
end Go.Proofs.YtkfpgnoodhlfgaaDoor
namespace Go.Proofs.YtkfpgnoodhlfgaaDoor
open Go.RowKit
attribute [local irreducible] wpList

theorem printF_snd (r : Rc) : (printF r).2 = recCheck r := by
  rcases printF_cases r with ⟨a1, a2⟩ | ⟨a1, a2⟩
  · rw [a2]
  · rw [a2, a1]
set_option maxRecDepth 100000 in
set_option maxHeartbeats 16000000 in
theorem noteSays_law (w : World) (v : Vars w) (r : Rc) (A : Option Addr) (na ca : Nat) (A2 : Option Addr) (na2 ca2 : Nat) (hr : r.wf) (hA : Byt w (LT w.heap.size) A na ca r.s.data) (hA2 : Byt w (LT w.heap.size) A2 na2 ca2 r.cargo) (q : Rc) (B : Option Addr) (nb cb : Nat) (B2 : Option Addr) (nb2 cb2 : Nat) (hq : q.wf) (hB : Byt w (LT w.heap.size) B nb cb q.s.data) (hB2 : Byt w (LT w.heap.size) B2 nb2 cb2 q.cargo) (s : List UInt8) (hs : s.length ≤ lim) (h : Hd) (hh : h.wf) :
    Calls Tryd.prog 4 #[.agg #[.int .i64 r.kind, .int .i64 r.place, .int .i64 r.n, .int .i64 r.try_, .int .i64 r.h.frm, .int .i64 r.h.seq, .int .i64 r.h.to, .int .i64 r.h.till, .int .i64 r.h.bytes, .int .i64 r.h.block, .int .i64 r.s.id, .slice A na ca, .slice A2 na2 ca2], .agg #[.int .i64 q.kind, .int .i64 q.place, .int .i64 q.n, .int .i64 q.try_, .int .i64 q.h.frm, .int .i64 q.h.seq, .int .i64 q.h.to, .int .i64 q.h.till, .int .i64 q.h.bytes, .int .i64 q.h.block, .int .i64 q.s.id, .slice B nb cb, .slice B2 nb2 cb2], sV s, .agg #[.int .i64 h.frm, .int .i64 h.seq, .int .i64 h.to, .int .i64 h.till, .int .i64 h.bytes, .int .i64 h.block]] w fun e w' => e = .returned (.bool true) ∧ Fr w w' := by
  obtain ⟨W1, hW1⟩ : ∃ W1, W1 = ((w.alloc (.cells #[.int .i64 r.kind, .int .i64 r.place, .int .i64 r.n, .int .i64 r.try_, .int .i64 r.h.frm, .int .i64 r.h.seq, .int .i64 r.h.to, .int .i64 r.h.till, .int .i64 r.h.bytes, .int .i64 r.h.block, .int .i64 r.s.id, .slice A na ca, .slice A2 na2 ca2] 31)).alloc (.cells #[.int .i64 q.kind, .int .i64 q.place, .int .i64 q.n, .int .i64 q.try_, .int .i64 q.h.frm, .int .i64 q.h.seq, .int .i64 q.h.to, .int .i64 q.h.till, .int .i64 q.h.bytes, .int .i64 q.h.block, .int .i64 q.s.id, .slice B nb cb, .slice B2 nb2 cb2] 31)).alloc (.cells #[.int .i64 h.frm, .int .i64 h.seq, .int .i64 h.to, .int .i64 h.till, .int .i64 h.bytes, .int .i64 h.block] 25) := ⟨_, rfl⟩
  obtain ⟨p, hp⟩ : ∃ p, p = w.heap.size := ⟨_, rfl⟩
  obtain ⟨z, hz⟩ : ∃ z, z = w.heap.size + 1 := ⟨_, rfl⟩
  obtain ⟨y, hy⟩ : ∃ y, y = w.heap.size + 2 := ⟨_, rfl⟩
  have hp1 : W1.heap[p]? = some (.cells #[.int .i64 r.kind, .int .i64 r.place, .int .i64 r.n, .int .i64 r.try_, .int .i64 r.h.frm, .int .i64 r.h.seq, .int .i64 r.h.to, .int .i64 r.h.till, .int .i64 r.h.bytes, .int .i64 r.h.block, .int .i64 r.s.id, .slice A na ca, .slice A2 na2 ca2] 31 (0, 0)) := by rw [hW1]; exact heap_old (heap_old (heap_new hp))
  have hz1 : W1.heap[z]? = some (.cells #[.int .i64 q.kind, .int .i64 q.place, .int .i64 q.n, .int .i64 q.try_, .int .i64 q.h.frm, .int .i64 q.h.seq, .int .i64 q.h.to, .int .i64 q.h.till, .int .i64 q.h.bytes, .int .i64 q.h.block, .int .i64 q.s.id, .slice B nb cb, .slice B2 nb2 cb2] 31 (0, 0)) := by rw [hW1]; exact heap_old (heap_new (by rw [hz]; simp))
  have hy1 : W1.heap[y]? = some (.cells #[.int .i64 h.frm, .int .i64 h.seq, .int .i64 h.to, .int .i64 h.till, .int .i64 h.bytes, .int .i64 h.block] 25 (0, 0)) := by rw [hW1]; exact heap_new (by rw [hy]; simp)
  have HF1 : Hid (Fr w W1) := by rw [hW1]; exact ((frAlloc _ _).trans (frAlloc _ _)).trans (frAlloc _ _)
  have HP1 := Lib.hid hp1
  have HZ1 := Lib.hid hz1
  have HY1 := Lib.hid hy1
  have hps := printF_snd r
  obtain ⟨tr, er, hpr⟩ : ∃ tr er, printF r = (tr, er) := ⟨_, _, rfl⟩
  rw [hpr] at hps
  have hps : er = recCheck r := hps
  obtain ⟨hd, hhd⟩ : ∃ hd, hd = hdCheck h := ⟨_, rfl⟩
  obtain ⟨sm, hsm⟩ : ∃ sm, sm = decide (r = q) := ⟨_, rfl⟩
  have CR : Hid (∀ W, Fr w W → Calls Tryd.prog 6 #[.agg #[.int .i64 r.kind, .int .i64 r.place, .int .i64 r.n, .int .i64 r.try_, .int .i64 r.h.frm, .int .i64 r.h.seq, .int .i64 r.h.to, .int .i64 r.h.till, .int .i64 r.h.bytes, .int .i64 r.h.block, .int .i64 r.s.id, .slice A na ca, .slice A2 na2 ca2]] W fun e w' => e = .returned (.tuple #[sV tr, .int .i64 er]) ∧ Fr W w') := fun W hf => by
    have := notePrint_any W (v.go hf) r A na ca A2 na2 ca2 hr (hA.go hf) (hA2.go hf)
    rw [hpr] at this
    exact this
  have CT : Hid (∀ W, Fr w W → Calls Tryd.prog 10 #[.agg #[.int .i64 r.kind, .int .i64 r.place, .int .i64 r.n, .int .i64 r.try_, .int .i64 r.h.frm, .int .i64 r.h.seq, .int .i64 r.h.to, .int .i64 r.h.till, .int .i64 r.h.bytes, .int .i64 r.h.block, .int .i64 r.s.id, .slice A na ca, .slice A2 na2 ca2]] W fun e w' => e = .returned (.tuple #[sV tr, .int .i64 er]) ∧ Fr W w') := fun W hf => by
    have := refText_any W (v.go hf) r A na ca A2 na2 ca2 hr (hA.go hf) (hA2.go hf)
    rw [hpr] at this
    exact this
  have CK : Hid (∀ W, Calls Tryd.prog 13 #[.agg #[.int .i64 r.kind, .int .i64 r.place, .int .i64 r.n, .int .i64 r.try_, .int .i64 r.h.frm, .int .i64 r.h.seq, .int .i64 r.h.to, .int .i64 r.h.till, .int .i64 r.h.bytes, .int .i64 r.h.block, .int .i64 r.s.id, .slice A na ca, .slice A2 na2 ca2]] W fun e w' => e = .returned (.int .i64 er) ∧ Fr W w') := fun W => by rw [hps]; exact noteCheck_any W r A na ca A2 na2 ca2 hr hA.2.1 hA2.2.1
  have CH : Hid (∀ W, Calls Tryd.prog 11 #[.agg #[.int .i64 h.frm, .int .i64 h.seq, .int .i64 h.to, .int .i64 h.till, .int .i64 h.bytes, .int .i64 h.block]] W fun e w' => e = .returned (.int .i64 hd) ∧ Fr W w') := fun W => by rw [hhd]; exact noteHead_any W h hh
  have CG : Hid (∀ W, Calls Tryd.prog 12 #[.agg #[.int .i64 h.frm, .int .i64 h.seq, .int .i64 h.to, .int .i64 h.till, .int .i64 h.bytes, .int .i64 h.block]] W fun e w' => e = .returned (.int .i64 hd) ∧ Fr W w') := fun W => by rw [hhd]; exact refHead_any W h hh
  have CS : Hid (∀ W, Fr w W → Calls Tryd.prog 8 #[.agg #[.int .i64 r.kind, .int .i64 r.place, .int .i64 r.n, .int .i64 r.try_, .int .i64 r.h.frm, .int .i64 r.h.seq, .int .i64 r.h.to, .int .i64 r.h.till, .int .i64 r.h.bytes, .int .i64 r.h.block, .int .i64 r.s.id, .slice A na ca, .slice A2 na2 ca2], .agg #[.int .i64 q.kind, .int .i64 q.place, .int .i64 q.n, .int .i64 q.try_, .int .i64 q.h.frm, .int .i64 q.h.seq, .int .i64 q.h.to, .int .i64 q.h.till, .int .i64 q.h.bytes, .int .i64 q.h.block, .int .i64 q.s.id, .slice B nb cb, .slice B2 nb2 cb2]] W fun e w' => e = .returned (.bool sm) ∧ Fr W w') := fun W hf => by rw [hsm]; exact noteSame_any W r q (LT W.heap.size) (LT W.heap.size) A na ca A2 na2 ca2 B nb cb B2 nb2 cb2 (hA.go hf) (hA2.go hf) (hB.go hf) (hB2.go hf)
  have CU : Hid (∀ W, Fr w W → Calls Tryd.prog 14 #[.agg #[.int .i64 r.kind, .int .i64 r.place, .int .i64 r.n, .int .i64 r.try_, .int .i64 r.h.frm, .int .i64 r.h.seq, .int .i64 r.h.to, .int .i64 r.h.till, .int .i64 r.h.bytes, .int .i64 r.h.block, .int .i64 r.s.id, .slice A na ca, .slice A2 na2 ca2], .agg #[.int .i64 q.kind, .int .i64 q.place, .int .i64 q.n, .int .i64 q.try_, .int .i64 q.h.frm, .int .i64 q.h.seq, .int .i64 q.h.to, .int .i64 q.h.till, .int .i64 q.h.bytes, .int .i64 q.h.block, .int .i64 q.s.id, .slice B nb cb, .slice B2 nb2 cb2]] W fun e w' => e = .returned (.bool sm) ∧ Fr W w') := fun W hf => by rw [hsm]; exact refSameRec_any W r q (LT W.heap.size) (LT W.heap.size) A na ca A2 na2 ca2 B nb cb B2 nb2 cb2 (hA.go hf) (hA2.go hf) (hB.go hf) (hB2.go hf)
  obtain ⟨x, xe, hpx⟩ : ∃ x xe, parseF s = (x, xe) := ⟨_, _, rfl⟩
  have CX : Hid (∀ W, Fr w W → Calls Tryd.prog 9 #[sV s] W (RPost W (x, xe))) := fun W hf => by rw [← hpx]; exact noteParse_any W (v.go hf) s hs
  have HPX := Lib.hid hpx
  have HV := Lib.hid v
  clear hps hpr hhd hsm hpx v hr hA hA2 hq hB hB2 hh hs
  (obtain ⟨bp0, bp1, bp2, bp3, bp4, bp5, bp6, bp7, bp8, bp9, bp10, bp11, bp12⟩ := box13_ hp1)
  clear hp1 hz1 hy1
  go_enter Tryd.func4, Tryd.ntmps4
  go_upto_region 1 with fail
  rw [← hW1, ← hy, ← hz, ← hp]
  clear hW1 hp hz hy
  go_wp2_with fail
  (with_reducible refine (CR.out _ HF1.out).mono ?_)
  rintro e w2 ⟨rfl, hf2⟩
  have HF2 : Hid (Fr w w2) := HF1.out.trans hf2
  have HP2 := Lib.hid (blk_go HP1.out hf2)
  have HZ2 := Lib.hid (blk_go HZ1.out hf2)
  have HY2 := Lib.hid (blk_go HY1.out hf2)
  clear hf2 HP1 HZ1 HY1 HF1 CR bp0 bp1 bp2 bp3 bp4 bp5 bp6 bp7 bp8 bp9 bp10 bp11 bp12
  go_wp2_with fail
  (with_reducible refine (CX.out _ HF2.out).mono ?_)
  rintro e w3 h3
  obtain ⟨D, n, c, D2, n2, c2, rfl, hwx, hdx, hdx2, hf3⟩ := parse_out h3
  have HWX := Lib.hid hwx
  have HD := Lib.hid hdx
  have HD2 := Lib.hid hdx2
  clear h3 hdx hdx2 hwx CX
  go_upto_region 3 with fail
  obtain ⟨W4, hW4⟩ : ∃ W4, W4 = w3.alloc (.cells #[.int .i64 x.kind, .int .i64 x.place, .int .i64 x.n, .int .i64 x.try_, .int .i64 x.h.frm, .int .i64 x.h.seq, .int .i64 x.h.to, .int .i64 x.h.till, .int .i64 x.h.bytes, .int .i64 x.h.block, .int .i64 x.s.id, .slice D n c, .slice D2 n2 c2] 31) := ⟨_, rfl⟩
  obtain ⟨xb, hxb⟩ : ∃ xb, xb = w3.heap.size := ⟨_, rfl⟩
  rw [← hW4, ← hxb]
  have hx4 : W4.heap[xb]? = some (.cells #[.int .i64 x.kind, .int .i64 x.place, .int .i64 x.n, .int .i64 x.try_, .int .i64 x.h.frm, .int .i64 x.h.seq, .int .i64 x.h.to, .int .i64 x.h.till, .int .i64 x.h.bytes, .int .i64 x.h.block, .int .i64 x.s.id, .slice D n c, .slice D2 n2 c2] 31 (0, 0)) := by rw [hW4]; exact heap_new hxb
  have hf4 : Fr w3 W4 := by rw [hW4]; exact frAlloc _ _
  have hf24 := hf3.trans hf4
  have HF4 : Hid (Fr w W4) := HF2.out.trans hf24
  have hp4 := blk_go HP2.out hf24
  have HP4 := Lib.hid hp4
  have HZ4 := Lib.hid (blk_go HZ2.out hf24)
  have HY4 := Lib.hid (blk_go HY2.out hf24)
  have HX4 := Lib.hid hx4
  have HD4 : Hid (Byt W4 (LT W4.heap.size) D n c x.s.data) := HD.out.go hf4
  have HD24 : Hid (Byt W4 (LT W4.heap.size) D2 n2 c2 x.cargo) := HD2.out.go hf4
  clear hW4 hxb hx4 hf3 hf4 hf24 HP2 HZ2 HY2 HF2 HD HD2
  (obtain ⟨bp0, bp1, bp2, bp3, bp4, bp5, bp6, bp7, bp8, bp9, bp10, bp11, bp12⟩ := box13_ hp4)
  clear hp4
  go_wp2_with fail
  (with_reducible refine (CT.out _ HF4.out).mono ?_)
  rintro e w5 ⟨rfl, hf5⟩
  have hp5 := blk_go HP4.out hf5
  have hz5 := blk_go HZ4.out hf5
  have hy5 := blk_go HY4.out hf5
  have HX5 := Lib.hid (blk_go HX4.out hf5)
  have HF5 : Hid (Fr w w5) := HF4.out.trans hf5
  have HD5 : Hid (Byt w5 (LT w5.heap.size) D n c x.s.data) := HD4.out.go hf5
  have HD25 : Hid (Byt w5 (LT w5.heap.size) D2 n2 c2 x.cargo) := HD24.out.go hf5
  clear bp0 bp1 bp2 bp3 bp4 bp5 bp6 bp7 bp8 bp9 bp10 bp11 bp12 CT HP4 HZ4 HY4 HX4 HF4 HD4 HD24 hf5
  obtain ⟨W4, rfl⟩ : ∃ W4, W4 = w5 := ⟨_, rfl⟩
  (obtain ⟨bp0, bp1, bp2, bp3, bp4, bp5, bp6, bp7, bp8, bp9, bp10, bp11, bp12⟩ := box13_ hp5)
  (obtain ⟨bz0, bz1, bz2, bz3, bz4, bz5, bz6, bz7, bz8, bz9, bz10, bz11, bz12⟩ := box13_ hz5)
  (obtain ⟨by0, by1, by2, by3, by4, by5⟩ := box6_ hy5)
  have hp4l := (Array.getElem?_eq_some_iff.1 hp5).1
  have hz4l := (Array.getElem?_eq_some_iff.1 hz5).1
  have hy4l := (Array.getElem?_eq_some_iff.1 hy5).1
  have KEEP : Hid (∀ w', Fr W4 w' → Fr W4 w' ∧ w'.cell? ⟨p, 0, none⟩ = some (.int .i64 r.kind) ∧ w'.cell? ⟨p, 1, none⟩ = some (.int .i64 r.place) ∧ w'.cell? ⟨p, 2, none⟩ = some (.int .i64 r.n) ∧ w'.cell? ⟨p, 3, none⟩ = some (.int .i64 r.try_) ∧ w'.cell? ⟨p, 4, none⟩ = some (.int .i64 r.h.frm) ∧ w'.cell? ⟨p, 5, none⟩ = some (.int .i64 r.h.seq) ∧ w'.cell? ⟨p, 6, none⟩ = some (.int .i64 r.h.to) ∧ w'.cell? ⟨p, 7, none⟩ = some (.int .i64 r.h.till) ∧ w'.cell? ⟨p, 8, none⟩ = some (.int .i64 r.h.bytes) ∧ w'.cell? ⟨p, 9, none⟩ = some (.int .i64 r.h.block) ∧ w'.cell? ⟨p, 10, none⟩ = some (.int .i64 r.s.id) ∧ w'.cell? ⟨p, 11, none⟩ = some (.slice A na ca) ∧ w'.cell? ⟨p, 12, none⟩ = some (.slice A2 na2 ca2) ∧ w'.cell? ⟨z, 0, none⟩ = some (.int .i64 q.kind) ∧ w'.cell? ⟨z, 1, none⟩ = some (.int .i64 q.place) ∧ w'.cell? ⟨z, 2, none⟩ = some (.int .i64 q.n) ∧ w'.cell? ⟨z, 3, none⟩ = some (.int .i64 q.try_) ∧ w'.cell? ⟨z, 4, none⟩ = some (.int .i64 q.h.frm) ∧ w'.cell? ⟨z, 5, none⟩ = some (.int .i64 q.h.seq) ∧ w'.cell? ⟨z, 6, none⟩ = some (.int .i64 q.h.to) ∧ w'.cell? ⟨z, 7, none⟩ = some (.int .i64 q.h.till) ∧ w'.cell? ⟨z, 8, none⟩ = some (.int .i64 q.h.bytes) ∧ w'.cell? ⟨z, 9, none⟩ = some (.int .i64 q.h.block) ∧ w'.cell? ⟨z, 10, none⟩ = some (.int .i64 q.s.id) ∧ w'.cell? ⟨z, 11, none⟩ = some (.slice B nb cb) ∧ w'.cell? ⟨z, 12, none⟩ = some (.slice B2 nb2 cb2) ∧ w'.cell? ⟨y, 0, none⟩ = some (.int .i64 h.frm) ∧ w'.cell? ⟨y, 1, none⟩ = some (.int .i64 h.seq) ∧ w'.cell? ⟨y, 2, none⟩ = some (.int .i64 h.to) ∧ w'.cell? ⟨y, 3, none⟩ = some (.int .i64 h.till) ∧ w'.cell? ⟨y, 4, none⟩ = some (.int .i64 h.bytes) ∧ w'.cell? ⟨y, 5, none⟩ = some (.int .i64 h.block)) := fun w' hf => ⟨hf, (hf.cell (p := ⟨p, 0, none⟩) hp4l).trans bp0, (hf.cell (p := ⟨p, 1, none⟩) hp4l).trans bp1, (hf.cell (p := ⟨p, 2, none⟩) hp4l).trans bp2, (hf.cell (p := ⟨p, 3, none⟩) hp4l).trans bp3, (hf.cell (p := ⟨p, 4, none⟩) hp4l).trans bp4, (hf.cell (p := ⟨p, 5, none⟩) hp4l).trans bp5, (hf.cell (p := ⟨p, 6, none⟩) hp4l).trans bp6, (hf.cell (p := ⟨p, 7, none⟩) hp4l).trans bp7, (hf.cell (p := ⟨p, 8, none⟩) hp4l).trans bp8, (hf.cell (p := ⟨p, 9, none⟩) hp4l).trans bp9, (hf.cell (p := ⟨p, 10, none⟩) hp4l).trans bp10, (hf.cell (p := ⟨p, 11, none⟩) hp4l).trans bp11, (hf.cell (p := ⟨p, 12, none⟩) hp4l).trans bp12, (hf.cell (p := ⟨z, 0, none⟩) hz4l).trans bz0, (hf.cell (p := ⟨z, 1, none⟩) hz4l).trans bz1, (hf.cell (p := ⟨z, 2, none⟩) hz4l).trans bz2, (hf.cell (p := ⟨z, 3, none⟩) hz4l).trans bz3, (hf.cell (p := ⟨z, 4, none⟩) hz4l).trans bz4, (hf.cell (p := ⟨z, 5, none⟩) hz4l).trans bz5, (hf.cell (p := ⟨z, 6, none⟩) hz4l).trans bz6, (hf.cell (p := ⟨z, 7, none⟩) hz4l).trans bz7, (hf.cell (p := ⟨z, 8, none⟩) hz4l).trans bz8, (hf.cell (p := ⟨z, 9, none⟩) hz4l).trans bz9, (hf.cell (p := ⟨z, 10, none⟩) hz4l).trans bz10, (hf.cell (p := ⟨z, 11, none⟩) hz4l).trans bz11, (hf.cell (p := ⟨z, 12, none⟩) hz4l).trans bz12, (hf.cell (p := ⟨y, 0, none⟩) hy4l).trans by0, (hf.cell (p := ⟨y, 1, none⟩) hy4l).trans by1, (hf.cell (p := ⟨y, 2, none⟩) hy4l).trans by2, (hf.cell (p := ⟨y, 3, none⟩) hy4l).trans by3, (hf.cell (p := ⟨y, 4, none⟩) hy4l).trans by4, (hf.cell (p := ⟨y, 5, none⟩) hy4l).trans by5⟩
  have e1 : (hd != hd) = false := by simp
  have e2 : (er != er) = false := by simp
  have e3 : (tr != tr) = false := by simp
  have e4 : (sm != sm) = false := by simp
  clear hp5 hz5 hy5 hp4l hz4l hy4l bp0 bp1 bp2 bp3 bp4 bp5 bp6 bp7 bp8 bp9 bp10 bp11 bp12 bz0 bz1 bz2 bz3 bz4 bz5 bz6 bz7 bz8 bz9 bz10 bz11 bz12 by0 by1 by2 by3 by4 by5
  go_upto_region 4 with fail
  go_cut [65] (fun s65 wx => s65 = .bool false ∧ Hid (Fr W4 wx))
  case first =>
    refine held_begin (n := 34) (bs := #[false, false, false, false, false, false, false, false, false, false, false, false, false, false, false, false, false, false, false, false, false, false, false, false, false, false, false, false, false, false, false, false, false, false]) rfl rfl (by kernel_rfl) (S := fun w' => Fr W4 w' ∧ w'.cell? ⟨p, 0, none⟩ = some (.int .i64 r.kind) ∧ w'.cell? ⟨p, 1, none⟩ = some (.int .i64 r.place) ∧ w'.cell? ⟨p, 2, none⟩ = some (.int .i64 r.n) ∧ w'.cell? ⟨p, 3, none⟩ = some (.int .i64 r.try_) ∧ w'.cell? ⟨p, 4, none⟩ = some (.int .i64 r.h.frm) ∧ w'.cell? ⟨p, 5, none⟩ = some (.int .i64 r.h.seq) ∧ w'.cell? ⟨p, 6, none⟩ = some (.int .i64 r.h.to) ∧ w'.cell? ⟨p, 7, none⟩ = some (.int .i64 r.h.till) ∧ w'.cell? ⟨p, 8, none⟩ = some (.int .i64 r.h.bytes) ∧ w'.cell? ⟨p, 9, none⟩ = some (.int .i64 r.h.block) ∧ w'.cell? ⟨p, 10, none⟩ = some (.int .i64 r.s.id) ∧ w'.cell? ⟨p, 11, none⟩ = some (.slice A na ca) ∧ w'.cell? ⟨p, 12, none⟩ = some (.slice A2 na2 ca2) ∧ w'.cell? ⟨z, 0, none⟩ = some (.int .i64 q.kind) ∧ w'.cell? ⟨z, 1, none⟩ = some (.int .i64 q.place) ∧ w'.cell? ⟨z, 2, none⟩ = some (.int .i64 q.n) ∧ w'.cell? ⟨z, 3, none⟩ = some (.int .i64 q.try_) ∧ w'.cell? ⟨z, 4, none⟩ = some (.int .i64 q.h.frm) ∧ w'.cell? ⟨z, 5, none⟩ = some (.int .i64 q.h.seq) ∧ w'.cell? ⟨z, 6, none⟩ = some (.int .i64 q.h.to) ∧ w'.cell? ⟨z, 7, none⟩ = some (.int .i64 q.h.till) ∧ w'.cell? ⟨z, 8, none⟩ = some (.int .i64 q.h.bytes) ∧ w'.cell? ⟨z, 9, none⟩ = some (.int .i64 q.h.block) ∧ w'.cell? ⟨z, 10, none⟩ = some (.int .i64 q.s.id) ∧ w'.cell? ⟨z, 11, none⟩ = some (.slice B nb cb) ∧ w'.cell? ⟨z, 12, none⟩ = some (.slice B2 nb2 cb2) ∧ w'.cell? ⟨y, 0, none⟩ = some (.int .i64 h.frm) ∧ w'.cell? ⟨y, 1, none⟩ = some (.int .i64 h.seq) ∧ w'.cell? ⟨y, 2, none⟩ = some (.int .i64 h.to) ∧ w'.cell? ⟨y, 3, none⟩ = some (.int .i64 h.till) ∧ w'.cell? ⟨y, 4, none⟩ = some (.int .i64 h.bytes) ∧ w'.cell? ⟨y, 5, none⟩ = some (.int .i64 h.block)) (KEEP.out _ (Below.refl _ _).drew) (fun hHeld => ?_)
    refine held_one (i := 0) rfl (by kernel_rfl) (fun K hK => ?_)
    go_simp
    go_at_call 7
    (with_reducible refine (lined_any _ (HV.out.go HF5.out.drew)).mono ?_)
    rintro e w6 ⟨rfl, hf6⟩
    have HG6 : Hid (Fr W4 w6) := (Below.refl _ _).drew.trans hf6
    clear hf6
    (refine held_back hK (a' := ?hA1) (l' := ?hL1) ?ha1 ?hl1 (KEEP.out _ HG6.out) (fun hHeld => ?hh1); (case ha1 => first | with_reducible rfl | (simp only [Act.put, hq1, hq2, hq3, Option.isNone, Bool.not_true, Bool.not_false]; (try with_reducible rfl))); (case hl1 => (simp only [Act.put, hq1, hq2, hq3, Option.isNone, Bool.not_true, Bool.not_false]; (try with_reducible rfl))); clear hK K)
    ((first | refine held_sk (i := 1) ?_ | refine held_tk (i := 1) ?_); (first | refine held_sk (i := 2) ?_ | refine held_tk (i := 2) ?_))
    ((first | refine held_sk (i := 3) ?_ | refine held_tk (i := 3) ?_); (first | refine held_sk (i := 5) ?_ | refine held_tk (i := 5) ?_))
    refine held_one (i := 4) rfl (by kernel_rfl) (fun K hK => ?_)
    go_simp
    go_at_call 11
    (with_reducible refine (CH.out _).mono ?_)
    rintro e w7 ⟨rfl, hf6⟩
    have HW7 : Hid (Fr W4 w7) := HG6.out.trans hf6
    clear hf6
    (refine held_back hK (a' := ?hA2) (l' := ?hL2) ?ha2 ?hl2 (KEEP.out _ HW7.out) (fun hHeld => ?hh2); (case ha2 => first | with_reducible rfl | (simp only [Act.put, hq1, hq2, hq3, Option.isNone, Bool.not_true, Bool.not_false]; (try with_reducible rfl))); (case hl2 => (simp only [Act.put, hq1, hq2, hq3, Option.isNone, Bool.not_true, Bool.not_false]; (try with_reducible rfl))); clear hK K)
    refine held_one (i := 6) rfl (by kernel_rfl) (fun K hK => ?_)
    go_simp
    go_at_call 12
    (with_reducible refine (CG.out _).mono ?_)
    rintro e w8 ⟨rfl, hf6⟩
    have HW8 : Hid (Fr W4 w8) := HW7.out.trans hf6
    clear hf6
    (refine held_back hK (a' := ?hA3) (l' := ?hL3) ?ha3 ?hl3 (KEEP.out _ HW8.out) (fun hHeld => ?hh3); (case ha3 => first | with_reducible rfl | (simp only [Act.put, hq1, hq2, hq3, Option.isNone, Bool.not_true, Bool.not_false]; (try with_reducible rfl))); (case hl3 => (simp only [Act.put, hq1, hq2, hq3, Option.isNone, Bool.not_true, Bool.not_false]; (try with_reducible rfl))); clear hK K)
    ((first | refine held_sk (i := 7) ?_ | refine held_tk (i := 7) ?_); (first | refine held_sk (i := 8) ?_ | refine held_tk (i := 8) ?_); (first | refine held_sk (i := 9) ?_ | refine held_tk (i := 9) ?_); (first | refine held_sk (i := 10) ?_ | refine held_tk (i := 10) ?_); (first | refine held_sk (i := 12) ?_ | refine held_tk (i := 12) ?_))
    refine held_one (i := 11) rfl (by kernel_rfl) (fun K hK => ?_)
    go_simp
    go_at_call 13
    (with_reducible refine (CK.out _).mono ?_)
    rintro e w9 ⟨rfl, hf6⟩
    have HW9 : Hid (Fr W4 w9) := HW8.out.trans hf6
    clear hf6
    (refine held_back hK (a' := ?hA4) (l' := ?hL4) ?ha4 ?hl4 (KEEP.out _ HW9.out) (fun hHeld => ?hh4); (case ha4 => first | with_reducible rfl | (simp only [Act.put, hq1, hq2, hq3, Option.isNone, Bool.not_true, Bool.not_false]; (try with_reducible rfl))); (case hl4 => (simp only [Act.put, hq1, hq2, hq3, Option.isNone, Bool.not_true, Bool.not_false]; (try with_reducible rfl))); clear hK K)
    ((first | refine held_sk (i := 13) ?_ | refine held_tk (i := 13) ?_); (first | refine held_sk (i := 14) ?_ | refine held_tk (i := 14) ?_); (first | refine held_sk (i := 15) ?_ | refine held_tk (i := 15) ?_); (first | refine held_sk (i := 16) ?_ | refine held_tk (i := 16) ?_); (first | refine held_sk (i := 17) ?_ | refine held_tk (i := 17) ?_); (first | refine held_sk (i := 18) ?_ | refine held_tk (i := 18) ?_); (first | refine held_sk (i := 19) ?_ | refine held_tk (i := 19) ?_); (first | refine held_sk (i := 20) ?_ | refine held_tk (i := 20) ?_); (first | refine held_sk (i := 21) ?_ | refine held_tk (i := 21) ?_); (first | refine held_sk (i := 22) ?_ | refine held_tk (i := 22) ?_); (first | refine held_sk (i := 23) ?_ | refine held_tk (i := 23) ?_); (first | refine held_sk (i := 24) ?_ | refine held_tk (i := 24) ?_); (first | refine held_sk (i := 25) ?_ | refine held_tk (i := 25) ?_); (first | refine held_sk (i := 26) ?_ | refine held_tk (i := 26) ?_); (first | refine held_sk (i := 27) ?_ | refine held_tk (i := 27) ?_); (first | refine held_sk (i := 29) ?_ | refine held_tk (i := 29) ?_); (first | refine held_sk (i := 30) ?_ | refine held_tk (i := 30) ?_))
    refine held_one (i := 28) rfl (by kernel_rfl) (fun K hK => ?_)
    go_simp
    go_at_call 8
    (with_reducible refine (CS.out _ (HF5.out.trans HW9.out)).mono ?_)
    rintro e w10 ⟨rfl, hf6⟩
    have HW10 : Hid (Fr W4 w10) := HW9.out.trans hf6
    clear hf6
    (refine held_back hK (a' := ?hA5) (l' := ?hL5) ?ha5 ?hl5 (KEEP.out _ HW10.out) (fun hHeld => ?hh5); (case ha5 => first | with_reducible rfl | (simp only [Act.put, hq1, hq2, hq3, Option.isNone, Bool.not_true, Bool.not_false]; (try with_reducible rfl))); (case hl5 => (simp only [Act.put, hq1, hq2, hq3, Option.isNone, Bool.not_true, Bool.not_false]; (try with_reducible rfl))); clear hK K)
    refine held_one (i := 31) rfl (by kernel_rfl) (fun K hK => ?_)
    go_simp
    go_at_call 14
    (with_reducible refine (CU.out _ (HF5.out.trans HW10.out)).mono ?_)
    rintro e w11 ⟨rfl, hf6⟩
    have HW11 : Hid (Fr W4 w11) := HW10.out.trans hf6
    clear hf6
    (refine held_back hK (a' := ?hA6) (l' := ?hL6) ?ha6 ?hl6 (KEEP.out _ HW11.out) (fun hHeld => ?hh6); (case ha6 => first | with_reducible rfl | (simp only [Act.put, hq1, hq2, hq3, Option.isNone, Bool.not_true, Bool.not_false]; (try with_reducible rfl))); (case hl6 => (simp only [Act.put, hq1, hq2, hq3, Option.isNone, Bool.not_true, Bool.not_false]; (try with_reducible rfl))); clear hK K)
    ((first | refine held_sk (i := 32) ?_ | refine held_tk (i := 32) ?_); (first | refine held_sk (i := 33) ?_ | refine held_tk (i := 33) ?_))
    refine wpAnyH_done (by kernel_rfl) ?_ _
    clear hHeld
    go_wp2_with fail
    go_meet
    exact ⟨by simp, HW11.out⟩
  case rest =>
  obtain ⟨rfl, hcf⟩ := hcut
  obtain ⟨W6, rfl⟩ : ∃ W6, W6 = wc := ⟨_, rfl⟩
  have HF6 : Hid (Fr w W6) := HF5.out.trans hcf.out
  have hx6 := blk_go HX5.out hcf.out
  have HD6 : Hid (Byt W6 (LT W6.heap.size) D n c x.s.data) := HD5.out.go hcf.out
  have HD26 : Hid (Byt W6 (LT W6.heap.size) D2 n2 c2 x.cargo) := HD25.out.go hcf.out
  have HX6 := Lib.hid hx6
  clear hcf HX5 HF5 HD5 HD25 KEEP CS CU CK CH CG
  by_cases hb : 60000 < s.length
  case pos =>
    have hxz : x = Rc.zero ∧ xe = 2 := by
      have := HPX.out
      unfold parseF at this
      rw [if_pos hb] at this
      simp only [Prod.mk.injEq] at this
      exact ⟨this.1.symm, this.2.symm⟩
    have t6 : decide ((60000 : Int) < (s.length : Int)) = true := by simp; omega
    obtain ⟨hx0, hxe0⟩ := hxz
    have CV : Hid (Calls Tryd.prog 14 #[.agg #[.int .i64 x.kind, .int .i64 x.place, .int .i64 x.n, .int .i64 x.try_, .int .i64 x.h.frm, .int .i64 x.h.seq, .int .i64 x.h.to, .int .i64 x.h.till, .int .i64 x.h.bytes, .int .i64 x.h.block, .int .i64 x.s.id, .slice D n c, .slice D2 n2 c2], .agg #[.int .i64 0, .int .i64 0, .int .i64 0, .int .i64 0, .int .i64 0, .int .i64 0, .int .i64 0, .int .i64 0, .int .i64 0, .int .i64 0, .int .i64 0, .slice none 0 0, .slice none 0 0]] W6 fun e w' => e = .returned (.bool true) ∧ Fr W6 w') := by
      have := refSameRec_any W6 x Rc.zero (LT W6.heap.size) (LT W6.heap.size) D n c D2 n2 c2 none 0 0 none 0 0 HD6.out HD26.out byt_nil byt_nil
      rw [decide_eq_true hx0] at this
      exact this
    have t7 : (xe == 2) = true := by simp [hxe0]
    clear hb hx0 hxe0
    (obtain ⟨bx0, bx1, bx2, bx3, bx4, bx5, bx6, bx7, bx8, bx9, bx10, bx11, bx12⟩ := box13_ hx6)
    clear hx6
    go_wp2_with fail
    (with_reducible refine (CV.out).mono ?_)
    rintro e w7 ⟨rfl, hf7⟩
    have HF7 : Hid (Fr w w7) := HF6.out.trans hf7
    clear hf7 bx0 bx1 bx2 bx3 bx4 bx5 bx6 bx7 bx8 bx9 bx10 bx11 bx12
    go_wp2_with fail
    go_ret
    exact ⟨rfl, HF7.out⟩
  case neg =>
  have t6 : decide ((60000 : Int) < (s.length : Int)) = false := by simp; omega
  have hrd : recRead s = (x, xe) := by
    have := HPX.out
    unfold parseF at this
    rw [if_neg hb] at this
    exact this
  have CY : Hid (Calls Tryd.prog 15 #[sV s] W6 (RPost W6 (x, xe))) := by rw [← hrd]; exact refRead_any W6 (HV.out.go HF6.out) s (by omega)
  clear hb hrd hx6
  go_wp2_with fail
  (with_reducible refine (CY.out).mono ?_)
  rintro e w7 h7
  obtain ⟨G, m, d, G2, m2, d2, rfl, _, hgx, hgx2, hf7⟩ := parse_out h7
  have HX7 := Lib.hid (blk_go HX6.out hf7)
  have HF7 : Hid (Fr w w7) := HF6.out.trans hf7
  have HD7 : Hid (Byt w7 (LT w7.heap.size) D n c x.s.data) := HD6.out.go hf7
  have HD27 : Hid (Byt w7 (LT w7.heap.size) D2 n2 c2 x.cargo) := HD26.out.go hf7
  have HG7 := Lib.hid hgx
  have HG27 := Lib.hid hgx2
  clear h7 hgx hgx2 hf7 CY HX6 HF6 HD6 HD26
  go_upto_region 9 with fail
  obtain ⟨W8, hW8⟩ : ∃ W8, W8 = w7.alloc (.cells #[.int .i64 x.kind, .int .i64 x.place, .int .i64 x.n, .int .i64 x.try_, .int .i64 x.h.frm, .int .i64 x.h.seq, .int .i64 x.h.to, .int .i64 x.h.till, .int .i64 x.h.bytes, .int .i64 x.h.block, .int .i64 x.s.id, .slice G m d, .slice G2 m2 d2] 31) := ⟨_, rfl⟩
  obtain ⟨yb, hyb⟩ : ∃ yb, yb = w7.heap.size := ⟨_, rfl⟩
  rw [← hW8, ← hyb]
  have hy8 : W8.heap[yb]? = some (.cells #[.int .i64 x.kind, .int .i64 x.place, .int .i64 x.n, .int .i64 x.try_, .int .i64 x.h.frm, .int .i64 x.h.seq, .int .i64 x.h.to, .int .i64 x.h.till, .int .i64 x.h.bytes, .int .i64 x.h.block, .int .i64 x.s.id, .slice G m d, .slice G2 m2 d2] 31 (0, 0)) := by rw [hW8]; exact heap_new hyb
  have hf8 : Fr w7 W8 := by rw [hW8]; exact frAlloc _ _
  have hx8 := blk_go HX7.out hf8
  have HF8 : Hid (Fr w W8) := HF7.out.trans hf8
  have CZ : Hid (Calls Tryd.prog 14 #[.agg #[.int .i64 x.kind, .int .i64 x.place, .int .i64 x.n, .int .i64 x.try_, .int .i64 x.h.frm, .int .i64 x.h.seq, .int .i64 x.h.to, .int .i64 x.h.till, .int .i64 x.h.bytes, .int .i64 x.h.block, .int .i64 x.s.id, .slice D n c, .slice D2 n2 c2], .agg #[.int .i64 x.kind, .int .i64 x.place, .int .i64 x.n, .int .i64 x.try_, .int .i64 x.h.frm, .int .i64 x.h.seq, .int .i64 x.h.to, .int .i64 x.h.till, .int .i64 x.h.bytes, .int .i64 x.h.block, .int .i64 x.s.id, .slice G m d, .slice G2 m2 d2]] W8 fun e w' => e = .returned (.bool true) ∧ Fr W8 w') := by
    have := refSameRec_any W8 x x (LT W8.heap.size) (LT W8.heap.size) D n c D2 n2 c2 G m d G2 m2 d2 (HD7.out.go hf8) (HD27.out.go hf8) (HG7.out.go hf8) (HG27.out.go hf8)
    rw [decide_eq_true (rfl : x = x)] at this
    exact this
  have t8 : (xe == xe) = true := by simp
  clear hW8 hyb hf8 HX7 HF7 HD7 HD27 HG7 HG27
  (obtain ⟨bx0, bx1, bx2, bx3, bx4, bx5, bx6, bx7, bx8, bx9, bx10, bx11, bx12⟩ := box13_ hx8)
  (obtain ⟨by0, by1, by2, by3, by4, by5, by6, by7, by8, by9, by10, by11, by12⟩ := box13_ hy8)
  clear hx8 hy8
  go_wp2_with fail
  (with_reducible refine (CZ.out).mono ?_)
  rintro e w9 ⟨rfl, hf9⟩
  have HF9 : Hid (Fr w w9) := HF8.out.trans hf9
  clear hf9 bx0 bx1 bx2 bx3 bx4 bx5 bx6 bx7 bx8 bx9 bx10 bx11 bx12 by0 by1 by2 by3 by4 by5 by6 by7 by8 by9 by10 by11 by12
  go_wp2_with fail
  go_ret
  exact ⟨rfl, HF9.out⟩
theorem noteSaysLaw.noteSays_any (w : World) (v : Vars w) (r : Rc) (A : Option Addr) (na ca : Nat) (A2 : Option Addr) (na2 ca2 : Nat) (hr : r.wf) (hA : Byt w (LT w.heap.size) A na ca r.s.data) (hA2 : Byt w (LT w.heap.size) A2 na2 ca2 r.cargo) (q : Rc) (B : Option Addr) (nb cb : Nat) (B2 : Option Addr) (nb2 cb2 : Nat) (hq : q.wf) (hB : Byt w (LT w.heap.size) B nb cb q.s.data) (hB2 : Byt w (LT w.heap.size) B2 nb2 cb2 q.cargo) (s : List UInt8) (hs : s.length ≤ lim) (h : Hd) (hh : h.wf) :
    Calls Tryd.prog 4 #[.agg #[.int .i64 r.kind, .int .i64 r.place, .int .i64 r.n, .int .i64 r.try_, .int .i64 r.h.frm, .int .i64 r.h.seq, .int .i64 r.h.to, .int .i64 r.h.till, .int .i64 r.h.bytes, .int .i64 r.h.block, .int .i64 r.s.id, .slice A na ca, .slice A2 na2 ca2], .agg #[.int .i64 q.kind, .int .i64 q.place, .int .i64 q.n, .int .i64 q.try_, .int .i64 q.h.frm, .int .i64 q.h.seq, .int .i64 q.h.to, .int .i64 q.h.till, .int .i64 q.h.bytes, .int .i64 q.h.block, .int .i64 q.s.id, .slice B nb cb, .slice B2 nb2 cb2], sV s, .agg #[.int .i64 h.frm, .int .i64 h.seq, .int .i64 h.to, .int .i64 h.till, .int .i64 h.bytes, .int .i64 h.block]] w fun e w' => e = .returned (.bool true) ∧ Fr w w' :=
  noteSays_law w v r A na ca A2 na2 ca2 hr hA hA2 q B nb cb B2 nb2 cb2 hq hB hB2 s hs h hh
end Go.Proofs.YtkfpgnoodhlfgaaDoor
namespace Go.Proofs.YtkfpgnoodhlfgaaDoor.noteSaysLaw
open Go.ChangeShapes Go.WideShapes Go.ChangeAt Go.RowKit

set_option maxRecDepth 100000 in
theorem lifted (os : Os) (started : os.Started) (H : Type) (enc : TypeId × Value → H) (F : Stop.Interp) :
    ReturnsInHanded {} Tryd.checked os 4 .any ((OpenSpec.ofChange Rows.noteSaysSpec).preRow enc Tryd.prog Tryd.f4 Rows.noteSaysRow.domain false Rows.noteSaysRow.laid) (((OpenSpec.ofChange Rows.noteSaysSpec).at F).post enc Tryd.prog Tryd.f4 false true false false) := by
  have hw : (DataW.whole enc Tryd.prog ((laidWorld os).forCall (fun _ _ => 0) ⟨#[], #[.agg #[.int .i64 0, .int .i64 0, .int .i64 0, .int .i64 0, .int .i64 0, .int .i64 0, .int .i64 0, .int .i64 0, .int .i64 0, .int .i64 0, .int .i64 0, .slice none 0 0, .slice none 0 0], .agg #[.int .i64 0, .int .i64 0, .int .i64 0, .int .i64 0, .int .i64 0, .int .i64 0, .int .i64 0, .int .i64 0, .int .i64 0, .int .i64 0, .int .i64 0, .slice none 0 0, .slice none 0 0], .string ⟨#[]⟩, .agg #[.int .i64 0, .int .i64 0, .int .i64 0, .int .i64 0, .int .i64 0, .int .i64 0]], []⟩).memory Tryd.f4.params.toList Rows.noteSaysSpec.vars false #[.agg #[.int .i64 0, .int .i64 0, .int .i64 0, .int .i64 0, .int .i64 0, .int .i64 0, .int .i64 0, .int .i64 0, .int .i64 0, .int .i64 0, .int .i64 0, .slice none 0 0, .slice none 0 0], .agg #[.int .i64 0, .int .i64 0, .int .i64 0, .int .i64 0, .int .i64 0, .int .i64 0, .int .i64 0, .int .i64 0, .int .i64 0, .int .i64 0, .int .i64 0, .slice none 0 0, .slice none 0 0], .string ⟨#[]⟩, .agg #[.int .i64 0, .int .i64 0, .int .i64 0, .int .i64 0, .int .i64 0, .int .i64 0]].toList 8).map (fun x => (x.1, x.2.1)) = some ([.agg [.lit (.int .i64 0), .lit (.int .i64 0), .lit (.int .i64 0), .lit (.int .i64 0), .agg [.lit (.int .i64 0), .lit (.int .i64 0), .lit (.int .i64 0), .lit (.int .i64 0), .agg [.lit (.int .i64 0), .lit (.int .i64 0)]], .agg [.lit (.int .i64 0), .nil], .nil], .agg [.lit (.int .i64 0), .lit (.int .i64 0), .lit (.int .i64 0), .lit (.int .i64 0), .agg [.lit (.int .i64 0), .lit (.int .i64 0), .lit (.int .i64 0), .lit (.int .i64 0), .agg [.lit (.int .i64 0), .lit (.int .i64 0)]], .agg [.lit (.int .i64 0), .nil], .nil], .lit (.string []), .agg [.lit (.int .i64 0), .lit (.int .i64 0), .lit (.int .i64 0), .lit (.int .i64 0), .agg [.lit (.int .i64 0), .lit (.int .i64 0)]]], []) := by kernel_rfl
  obtain ⟨⟨x1, x2, x3⟩, hx, hx1⟩ := Option.map_eq_some_iff.1 hw
  simp only [Prod.mk.injEq] at hx1
  obtain ⟨rfl, rfl⟩ := hx1
  refine returnsInHanded_of_row (C := Tryd.checked) (s := OpenSpec.ofChange Rows.noteSaysSpec) own started (by kernel_rfl) Tryd.func4
    (witness_row_atRef (enc := enc) (C := Tryd.checked) false (laidWorld os) #[.agg #[.int .i64 0, .int .i64 0, .int .i64 0, .int .i64 0, .int .i64 0, .int .i64 0, .int .i64 0, .int .i64 0, .int .i64 0, .int .i64 0, .int .i64 0, .slice none 0 0, .slice none 0 0], .agg #[.int .i64 0, .int .i64 0, .int .i64 0, .int .i64 0, .int .i64 0, .int .i64 0, .int .i64 0, .int .i64 0, .int .i64 0, .int .i64 0, .int .i64 0, .slice none 0 0, .slice none 0 0], .string ⟨#[]⟩, .agg #[.int .i64 0, .int .i64 0, .int .i64 0, .int .i64 0, .int .i64 0, .int .i64 0]] rfl (by kernel_rfl) (by kernel_rfl) (by kernel_rfl)
      (OpenSpec.preRow_of_cond 8 hx (by kernel_rfl) (fun k hk => by cases hk) (by kernel_rfl) (laid_met os _))) ?_
  intro W base args ds gs before hval0 hW _ _ hsz0 hL hsh _
  have hvars : Vars W := vars_of (show laidMet Tryd.prog laidList W from hL) hsh
  have hval : ∀ (j : Nat) t v, Tryd.f4.params[j]? = some t → args[j]? = some v → Value.okWide Tryd.prog W .any base t v := hval0
  have hsz : (DataW.weightsEach Tryd.prog (Tryd.f4.params.toList ++ Rows.noteSaysSpec.plain.varTypes Tryd.prog) (ds ++ gs)).all (· ≤ reachBytes) = true := hsz0
  have hW' := hW
  obtain ⟨p, q, hA0, hV, rfl, hfz, hnd⟩ := hW
  have hA : DataW.TrodAll enc Tryd.prog W 0 (fun _ => true) true Tryd.f4.params.toList args.toList ds p := hA0
  rw [Tryd.params4] at hA hval hsz
  obtain ⟨v0, vs0, d0, ds0, p0, q0, hargs, rfl, rfl, h0, r0⟩ := trodAll_cons hA
  obtain ⟨v1, vs1, d1, ds1, p1, q1, rfl, rfl, rfl, h1, r1⟩ := trodAll_cons r0
  obtain ⟨v2, vs2, d2, ds2, p2, q2, rfl, rfl, rfl, h2, r2⟩ := trodAll_cons r1
  obtain ⟨v3, vs3, d3, ds3, p3, q3, rfl, rfl, rfl, h3, r3⟩ := trodAll_cons r2
  obtain ⟨rfl, rfl, rfl⟩ := trodAll_nil r3
  obtain rfl : args = #[v0, v1, v2, v3] := by cases args; simp_all
  obtain ⟨rfl, rfl⟩ := trodVars_none hV
  have k0 := h0
  have lt0 : ∀ x ∈ p0, x.block < W.heap.size := by obtain ⟨m, hm⟩ := k0; exact DataW.trod_lt m _ _ _ hm
  have s0 : ∀ n ∈ d0.weights Tryd.prog 31, n ≤ reachBytes := fun n hn => of_decide_eq_true (List.all_eq_true.1 hsz n (DataW.weights_mem_each (j := 0) rfl rfl n hn))
  obtain ⟨m0, A0, n0, c0, B0, f0, g0, rfl, wf0, by0, bz0⟩ := openRec (hval 0 31 v0 rfl rfl) h0 s0
  have k1 := h1
  have lt1 : ∀ x ∈ p1, x.block < W.heap.size := by obtain ⟨m, hm⟩ := k1; exact DataW.trod_lt m _ _ _ hm
  have s1 : ∀ n ∈ d1.weights Tryd.prog 31, n ≤ reachBytes := fun n hn => of_decide_eq_true (List.all_eq_true.1 hsz n (DataW.weights_mem_each (j := 1) rfl rfl n hn))
  obtain ⟨m1, A1, n1, c1, B1, f1, g1, rfl, wf1, by1, bz1⟩ := openRec (hval 1 31 v1 rfl rfl) h1 s1
  have k2 := h2
  have lt2 : ∀ x ∈ p2, x.block < W.heap.size := by obtain ⟨m, hm⟩ := k2; exact DataW.trod_lt m _ _ _ hm
  have s2 : ∀ n ∈ d2.weights Tryd.prog 9, n ≤ reachBytes := fun n hn => of_decide_eq_true (List.all_eq_true.1 hsz n (DataW.weights_mem_each (j := 2) rfl rfl n hn))
  obtain ⟨l2, rfl, ls2⟩ := openStrA (hval 2 9 v2 rfl rfl) h2 s2
  have k3 := h3
  have lt3 : ∀ x ∈ p3, x.block < W.heap.size := by obtain ⟨m, hm⟩ := k3; exact DataW.trod_lt m _ _ _ hm
  have s3 : ∀ n ∈ d3.weights Tryd.prog 25, n ≤ reachBytes := fun n hn => of_decide_eq_true (List.all_eq_true.1 hsz n (DataW.weights_mem_each (j := 3) rfl rfl n hn))
  obtain ⟨m3, rfl, wf3⟩ := openHead (hval 3 25 v3 rfl rfl) h3 s3
  clear hA0 hval0
  refine (noteSays_any W hvars m0 A0 n0 c0 B0 f0 g0 wf0 by0 bz0 m1 A1 n1 c1 B1 f1 g1 wf1 by1 bz1 l2 ls2 m3 wf3).mono fun e W' ⟨he, bel⟩ => ?_
  subst he
  exact ⟨_, rfl, _, _, _, [], _, [], hW', trodAll_mk1 (shut_bool Tryd.underlying4 _), (trodAll_cons_mk (Below.trod laidOut (by kernel_rfl) (of_decide_eq_true (by kernel_rfl)) k0 bel lt0) (trodAll_cons_mk (Below.trod laidOut (by kernel_rfl) (of_decide_eq_true (by kernel_rfl)) k1 bel lt1) (trodAll_cons_mk (Below.trod laidOut (by kernel_rfl) (of_decide_eq_true (by kernel_rfl)) k2 bel lt2) (trodAll_cons_mk (Below.trod laidOut (by kernel_rfl) (of_decide_eq_true (by kernel_rfl)) k3 bel lt3) trodAll_mk0)))), rfl, bel.frame _, fun h => by cases h⟩

theorem said : Rows.NoteSaysSaid :=
  OpenClaim.holds_of_cond 4 Tryd.f4 rfl rfl rfl rfl rfl rfl rfl ⟨rfl, rfl, rfl, rfl, rfl⟩ rfl rfl rfl rfl rfl (by kernel_rfl) Tryd.func4 (by kernel_rfl)
    (of_decide_eq_true (by kernel_rfl)) (by unfold Func.isWrapper; first | (rw [if_pos (by decide +kernel)]; kernel_rfl) | (rw [if_neg (by decide +kernel)]; exact ⟨rfl, rfl⟩))
    (fun os started H enc _ F => by rw [OpenClaim.pre_eq_preRow]; exact lifted os started H enc F)
theorem plain (f : FuncId) (fn : Func) (hf : Tryd.pinned.checked.prog.funcNamed "bottlepost/bottlepostlaw.NoteSays" = some f) (hfn : Tryd.pinned.checked.prog.funcs[f]? = some fn) :
    true = Tryd.pinned.checked.prog.looks [] ∧ ∀ (j : Nat) t, fn.params[j]? = some t → Tryd.pinned.checked.prog.wantsStandIn t = false := by
  obtain rfl : f = 4 := Option.some.inj ((show Tryd.prog.funcNamed "bottlepost/bottlepostlaw.NoteSays" = some 4 by kernel_rfl).symm.trans hf) |>.symm
  obtain rfl : fn = Tryd.f4 := (Option.some.inj (Tryd.func4.symm.trans hfn)).symm
  refine ⟨by kernel_rfl, fun j t ht => ?_⟩
  have hall : (Tryd.f4.params.toList.all fun t => !Tryd.prog.wantsStandIn t) = true := by kernel_rfl
  have hm : t ∈ Tryd.f4.params.toList := by simpa using Array.mem_of_getElem? ht
  have h1 := List.all_eq_true.1 hall t hm
  have h2 : Tryd.prog.wantsStandIn t = false := by simpa using h1
  exact h2
/-- The card: the law answers true for every input. -/
theorem proved : Rows.NoteSaysCardSaid :=
  Claim7.holds_tied_plain_at .later [] _ _ _ _ said (fun _ h => by cases h) (by kernel_rfl) (fun _ h => by cases h) noteSays_row_tie rfl ⟨rfl, rfl⟩ (by kernel_rfl) rfl plain (by kernel_rfl)
#print axioms proved
end Go.Proofs.YtkfpgnoodhlfgaaDoor.noteSaysLaw
