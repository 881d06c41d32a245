/- The closed fact 'filed'. Condition: the library's variables are laid. -/
import Derived.Test.YtmiaplgfbphfmaaGreatDoorMPR
import Derived.Test.YtmiaplgfbphfmaaGreatDoorMPP
import Derived.Test.YtmiaplgfbphfmaaGreatDoorMPGC
import Derived.Test.YtmiaplgfbphfmaaGreatDoorMPI
import Derived.Deep.DeepCutAuto
import Derived.Deep.Cut
import Derived.Test.YtmiaplgfbphfmaaGreatDoorMPD
import Derived.Test.YtmiaplgfbphfmaaGreatDoorMPJ
import Derived.StillTailTactics
import Derived.Deep.RegionHeld3
import Derived.Lib.AppendStr
import Derived.Laws.AppendOwnNone
import Derived.Lib.AppendZerosOnto
import Derived.Test.YtmiaplgfbphfmaaGreatDoorMPGB
import Derived.Test.YtmiaplgfbphfmaaGreatDoorMPQ
set_option linter.unusedSimpArgs false
set_option linter.unusedVariables false
namespace Go.Proofs.YtmiaplgfbphfmaaGreatDoor
open Go.RowKit
attribute [local irreducible] wpList

theorem rcV_false {x : Bool} (h : x = false) : (Ending.returned (.bool false)) = .returned (.bool x) := by rw [h]
set_option maxRecDepth 100000 in
set_option maxHeartbeats 8000000 in
theorem noteSame_any (w : World) (a b : Rc) (S T : Nat → Prop) (A : Option Addr) (na ca : Nat) (A2 : Option Addr) (na2 ca2 : Nat) (B : Option Addr) (nb cb : Nat) (B2 : Option Addr) (nb2 cb2 : Nat) (hA : Byt w (LT w.heap.size) A na ca a.s.data) (hA2 : Byt w (LT w.heap.size) A2 na2 ca2 a.cargo) (hB : Byt w (LT w.heap.size) B nb cb b.s.data) (hB2 : Byt w (LT w.heap.size) B2 nb2 cb2 b.cargo) :
    Calls Tryz.prog 23 #[.agg #[.int .i64 a.kind, .int .i64 a.place, .int .i64 a.n, .int .i64 a.try_, .int .i64 a.h.frm, .int .i64 a.h.seq, .int .i64 a.h.to, .int .i64 a.h.till, .int .i64 a.h.bytes, .int .i64 a.h.block, .int .i64 a.s.id, .slice A na ca, .slice A2 na2 ca2], .agg #[.int .i64 b.kind, .int .i64 b.place, .int .i64 b.n, .int .i64 b.try_, .int .i64 b.h.frm, .int .i64 b.h.seq, .int .i64 b.h.to, .int .i64 b.h.till, .int .i64 b.h.bytes, .int .i64 b.h.block, .int .i64 b.s.id, .slice B nb cb, .slice B2 nb2 cb2]] w fun e w' => e = .returned (.bool (decide (a = b))) ∧ Fr w w' := by
  obtain ⟨X, hX⟩ : ∃ X, X = decide (a = b) := ⟨_, rfl⟩
  rw [← hX]
  obtain ⟨W1, hW1⟩ : ∃ W1, W1 = (w.alloc (.cells #[.int .i64 a.kind, .int .i64 a.place, .int .i64 a.n, .int .i64 a.try_, .int .i64 a.h.frm, .int .i64 a.h.seq, .int .i64 a.h.to, .int .i64 a.h.till, .int .i64 a.h.bytes, .int .i64 a.h.block, .int .i64 a.s.id, .slice A na ca, .slice A2 na2 ca2] 40)).alloc (.cells #[.int .i64 b.kind, .int .i64 b.place, .int .i64 b.n, .int .i64 b.try_, .int .i64 b.h.frm, .int .i64 b.h.seq, .int .i64 b.h.to, .int .i64 b.h.till, .int .i64 b.h.bytes, .int .i64 b.h.block, .int .i64 b.s.id, .slice B nb cb, .slice B2 nb2 cb2] 40) := ⟨_, rfl⟩
  obtain ⟨p, hp⟩ : ∃ p, p = w.heap.size := ⟨_, rfl⟩
  have hp1 : W1.heap[p]? = some (.cells #[.int .i64 a.kind, .int .i64 a.place, .int .i64 a.n, .int .i64 a.try_, .int .i64 a.h.frm, .int .i64 a.h.seq, .int .i64 a.h.to, .int .i64 a.h.till, .int .i64 a.h.bytes, .int .i64 a.h.block, .int .i64 a.s.id, .slice A na ca, .slice A2 na2 ca2] 40 (0, 0)) := by rw [hW1]; exact heap_old (heap_new hp)
  have hq1 : W1.heap[p + 1]? = some (.cells #[.int .i64 b.kind, .int .i64 b.place, .int .i64 b.n, .int .i64 b.try_, .int .i64 b.h.frm, .int .i64 b.h.seq, .int .i64 b.h.to, .int .i64 b.h.till, .int .i64 b.h.bytes, .int .i64 b.h.block, .int .i64 b.s.id, .slice B nb cb, .slice B2 nb2 cb2] 40 (0, 0)) := by rw [hW1]; exact heap_new (by rw [hp]; simp)
  have HF : Hid (Fr w W1) := by rw [hW1]; exact (frAlloc _ _).trans (frAlloc _ _)
  have HQ := Lib.hid hq1
  have HP := Lib.hid hp1
  (obtain ⟨bp0, bp1, bp2, bp3, bp4, bp5, bp6, bp7, bp8, bp9, bp10, bp11, bp12⟩ := box13_ hp1)
  (obtain ⟨bq0, bq1, bq2, bq3, bq4, bq5, bq6, bq7, bq8, bq9, bq10, bq11, bq12⟩ := box13_ hq1)
  clear hp1 hq1
  have hna : na ≤ maxLen := by have := hA.1; omega
  have hna2 : na2 ≤ maxLen := by have := hA2.1; omega
  have E1 : Hid (∀ W, Fr w W → Calls Tryz.prog 77 #[.slice A na ca, .slice B nb cb] W fun e w' => e = .returned (.bool (decide (a.s.data = b.s.data))) ∧ Fr W w') := fun W hf => (equalBlock_any W _ _ A B na ca nb cb _ _ (hA.2.go sByte hf) (hB.2.go sByte hf) hna).mono fun e w' ⟨he, m, hm⟩ => ⟨he, by rw [hm]; exact frDrewN _ _⟩
  have E2 : Hid (∀ W, Fr w W → Calls Tryz.prog 46 #[.slice A2 na2 ca2, .slice B2 nb2 cb2] W fun e w' => e = .returned (.bool (decide (a.cargo = b.cargo))) ∧ Fr W w') := fun W hf => (equalBytes_any W _ _ A2 B2 na2 ca2 nb2 cb2 _ _ (hA2.2.go sByte hf) (hB2.2.go sByte hf) hna2).mono fun e w' ⟨he, m, hm⟩ => ⟨he, by rw [hm]; exact frDrewN _ _⟩
  have hne : ∀ {c : Prop}, (a = b → c) → ¬ c → Hid (X = false) := fun h1 h2 => by rw [Hid, hX]; exact decide_eq_false fun e => h2 (h1 e)
  have HXX := Lib.hid hX
  clear hX hA hA2 hB hB2 hna hna2
  go_enter Tryz.func23, Tryz.ntmps23
  go_upto_region 1 with fail
  rw [← hW1, ← hp]
  clear hW1 hp
  by_cases h1 : a.kind = b.kind
  case neg =>
    have t1 : (a.kind == b.kind) = false := by simp [h1]
    have HX := hne (c := a.kind = b.kind) (fun e => by rw [e]) h1
    clear hne
    go_wp2_with fail
    go_ret
    exact ⟨rcV_false HX.out, HF.out.trans (by (repeat' (first | exact Below.refl _ _ | refine below_drewN ?_ _ | refine Below.drew ?_ | refine frA ?_ _)))⟩
  case pos =>
  have t1 : (a.kind == b.kind) = true := by simp [h1]
  by_cases h2 : a.place = b.place
  case neg =>
    have t2 : (a.place == b.place) = false := by simp [h2]
    have HX := hne (c := a.place = b.place) (fun e => by rw [e]) h2
    clear hne
    go_wp2_with fail
    go_ret
    exact ⟨rcV_false HX.out, HF.out.trans (by (repeat' (first | exact Below.refl _ _ | refine below_drewN ?_ _ | refine Below.drew ?_ | refine frA ?_ _)))⟩
  case pos =>
  have t2 : (a.place == b.place) = true := by simp [h2]
  by_cases h3 : a.n = b.n
  case neg =>
    have t3 : (a.n == b.n) = false := by simp [h3]
    have HX := hne (c := a.n = b.n) (fun e => by rw [e]) h3
    clear hne
    go_wp2_with fail
    go_ret
    exact ⟨rcV_false HX.out, HF.out.trans (by (repeat' (first | exact Below.refl _ _ | refine below_drewN ?_ _ | refine Below.drew ?_ | refine frA ?_ _)))⟩
  case pos =>
  have t3 : (a.n == b.n) = true := by simp [h3]
  by_cases h4 : a.try_ = b.try_
  case neg =>
    have t4 : (a.try_ == b.try_) = false := by simp [h4]
    have HX := hne (c := a.try_ = b.try_) (fun e => by rw [e]) h4
    clear hne
    go_wp2_with fail
    go_ret
    exact ⟨rcV_false HX.out, HF.out.trans (by (repeat' (first | exact Below.refl _ _ | refine below_drewN ?_ _ | refine Below.drew ?_ | refine frA ?_ _)))⟩
  case pos =>
  have t4 : (a.try_ == b.try_) = true := by simp [h4]
  by_cases h5 : a.h = b.h
  case neg =>
    have hq := fun V => (eqHd a.h b.h V).trans (by rw [decide_eq_false h5])
    have HX := hne (c := a.h = b.h) (fun e => by rw [e]) h5
    have HH := Lib.hid h5
    clear h5
    clear hne
    go_wp2_with fail
    go_ret
    exact ⟨rcV_false HX.out, HF.out.trans (by (repeat' (first | exact Below.refl _ _ | refine below_drewN ?_ _ | refine Below.drew ?_ | refine frA ?_ _)))⟩
  case pos =>
  have hq := fun V => (eqHd a.h b.h V).trans (by rw [decide_eq_true h5])
  have HH := Lib.hid h5
  clear h5
  by_cases h6 : a.s.id = b.s.id
  case neg =>
    have t6 : (a.s.id == b.s.id) = false := by simp [h6]
    have HX := hne (c := a.s.id = b.s.id) (fun e => by rw [e]) h6
    clear hne
    go_wp2_with fail
    go_ret
    exact ⟨rcV_false HX.out, HF.out.trans (by (repeat' (first | exact Below.refl _ _ | refine below_drewN ?_ _ | refine Below.drew ?_ | refine frA ?_ _)))⟩
  case pos =>
  have t6 : (a.s.id == b.s.id) = true := by simp [h6]
  obtain ⟨d1, hd1⟩ : ∃ d1, d1 = decide (a.s.data = b.s.data) := ⟨_, rfl⟩
  rw [← hd1] at E1
  obtain ⟨d2, hd2⟩ : ∃ d2, d2 = decide (a.cargo = b.cargo) := ⟨_, rfl⟩
  rw [← hd2] at E2
  have HALL : Hid (X = (d1 && d2)) := by
    rw [Hid, HXX.out, hd1, hd2]
    obtain ⟨_, _, _, _, _, ⟨_, _⟩, _⟩ := a
    obtain ⟨_, _, _, _, _, ⟨_, _⟩, _⟩ := b
    have h5 := HH.out
    simp only at h1 h2 h3 h4 h5 h6
    subst h1 h2 h3 h4 h5 h6
    simp
  have H1 := Lib.hid h1
  have H2 := Lib.hid h2
  have H3 := Lib.hid h3
  have H4 := Lib.hid h4
  have H6 := Lib.hid h6
  clear h1 h2 h3 h4 h6 hne hd1 hd2
  go_wp2_with fail
  (with_reducible refine (E1.out _ HF.out).mono ?_)
  rintro e w2 ⟨rfl, hf2⟩
  have HF2 : Hid (Fr w w2) := HF.out.trans hf2
  have hq2 := blk_go HQ.out hf2
  have hp2 := blk_go HP.out hf2
  clear hf2 bp0 bp1 bp2 bp3 bp4 bp5 bp6 bp7 bp8 bp9 bp10 bp11 bp12 bq0 bq1 bq2 bq3 bq4 bq5 bq6 bq7 bq8 bq9 bq10 bq11 bq12
  (obtain ⟨bp0, bp1, bp2, bp3, bp4, bp5, bp6, bp7, bp8, bp9, bp10, bp11, bp12⟩ := box13_ hp2)
  (obtain ⟨bq0, bq1, bq2, bq3, bq4, bq5, bq6, bq7, bq8, bq9, bq10, bq11, bq12⟩ := box13_ hq2)
  clear hp2 hq2
  cases d1 with
  | false =>
    go_wp2_with fail
    go_ret
    exact ⟨rcV_false HALL.out, HF2.out⟩
  | true =>
    go_wp2_with fail
    (with_reducible refine (E2.out _ HF2.out).mono ?_)
    rintro e w3 ⟨rfl, hf3⟩
    have HF3 : Hid (Fr w w3) := HF2.out.trans hf3
    clear hf3
    go_wp2_with fail
    go_ret
    exact ⟨by rw [HALL.out]; simp, HF3.out⟩
end Go.Proofs.YtmiaplgfbphfmaaGreatDoor
namespace Go.Proofs.YtmiaplgfbphfmaaGreatDoor
set_option maxRecDepth 100000
open Go.RowKit
attribute [local irreducible] wpList

theorem eRc_at {w : World} {S : Nat → Prop} {q : Addr} {x : Rc} (h : eRc w S (fun j => w.cell? (q.add j)) x) : ∃ A n c A2 n2 c2, (w.cell? q = some (.int .i64 x.kind) ∧ w.cell? ⟨q.block, q.off + 1, none⟩ = some (.int .i64 x.place) ∧ w.cell? ⟨q.block, q.off + 2, none⟩ = some (.int .i64 x.n) ∧ w.cell? ⟨q.block, q.off + 3, none⟩ = some (.int .i64 x.try_) ∧ w.cell? ⟨q.block, q.off + 4, none⟩ = some (.int .i64 x.h.frm) ∧ w.cell? ⟨q.block, q.off + 5, none⟩ = some (.int .i64 x.h.seq) ∧ w.cell? ⟨q.block, q.off + 6, none⟩ = some (.int .i64 x.h.to) ∧ w.cell? ⟨q.block, q.off + 7, none⟩ = some (.int .i64 x.h.till) ∧ w.cell? ⟨q.block, q.off + 8, none⟩ = some (.int .i64 x.h.bytes) ∧ w.cell? ⟨q.block, q.off + 9, none⟩ = some (.int .i64 x.h.block) ∧ w.cell? ⟨q.block, q.off + 10, none⟩ = some (.int .i64 x.s.id) ∧ w.cell? ⟨q.block, q.off + 11, none⟩ = some (.slice A n c) ∧ w.cell? ⟨q.block, q.off + 12, none⟩ = some (.slice A2 n2 c2)) ∧ x.wf ∧ Byt w S A n c x.s.data ∧ Byt w S A2 n2 c2 x.cargo := eRc_iff.1 h
def SaysRc (P : Program) (f : FuncId) : Prop := ∀ (W : World) (a b : Rc) (A : Option Addr) (na ca : Nat) (A2 : Option Addr) (na2 ca2 : Nat) (B : Option Addr) (nb cb : Nat) (B2 : Option Addr) (nb2 cb2 : Nat), Byt W (LT W.heap.size) A na ca a.s.data → Byt W (LT W.heap.size) A2 na2 ca2 a.cargo → Byt W (LT W.heap.size) B nb cb b.s.data → Byt W (LT W.heap.size) B2 nb2 cb2 b.cargo →
  Calls P f #[.agg #[.int .i64 a.kind, .int .i64 a.place, .int .i64 a.n, .int .i64 a.try_, .int .i64 a.h.frm, .int .i64 a.h.seq, .int .i64 a.h.to, .int .i64 a.h.till, .int .i64 a.h.bytes, .int .i64 a.h.block, .int .i64 a.s.id, .slice A na ca, .slice A2 na2 ca2], .agg #[.int .i64 b.kind, .int .i64 b.place, .int .i64 b.n, .int .i64 b.try_, .int .i64 b.h.frm, .int .i64 b.h.seq, .int .i64 b.h.to, .int .i64 b.h.till, .int .i64 b.h.bytes, .int .i64 b.h.block, .int .i64 b.s.id, .slice B nb cb, .slice B2 nb2 cb2]] W fun e w' => e = .returned (.bool (decide (a = b))) ∧ Fr W w'
theorem saysRc : SaysRc Tryz.prog 23 := fun W a b A na ca A2 na2 ca2 B nb cb B2 nb2 cb2 h1 h2 h3 h4 => noteSame_any W a b (LT W.heap.size) (LT W.heap.size) A na ca A2 na2 ca2 B nb cb B2 nb2 cb2 h1 h2 h3 h4
set_option maxRecDepth 100000 in
set_option maxHeartbeats 2000000 in
theorem equalFuncRc_any (w : World) (f : FuncId) (hcf : ∀ (args : Array Value) (W : World), (callFunc f args).run Tryz.prog W = .ok (.enter f args) W) (hfn : SaysRc Tryz.prog f) (A A' : Option Addr) (n c n' c' : Nat) (xs ys : List Rc) (h : Sl 13 eRc w (LT w.heap.size) A n xs) (h' : Sl 13 eRc w (LT w.heap.size) A' n' ys) (hm : n ≤ maxLen) :
    Calls Tryz.prog 22 #[.slice A n c, .slice A' n' c', .func (.func f) #[] #[]] w fun e w' => e = .returned (.bool (decide (xs = ys))) ∧ Fr w w' := by
  unfold maxLen at hm
  have H := Lib.hid h
  have H' := Lib.hid h'
  have HFN := Lib.hid hfn
  clear h h' hfn
  by_cases hn : n = n'
  · have hne : ((n : Int) != (n' : Int)) = false := by simp [hn]
    have HN : Hid (n = n') := hn
    clear hn
    go_enter Tryz.func22, Tryz.ntmps22
    go_wp2_with fail
    go_loopw [17] (fun i wr => ∃ k : Nat, k ≤ n ∧ i = .int .i64 k ∧ Hid (Fr w wr) ∧ Hid (decide (xs = ys) = decide (xs.drop k = ys.drop k))) (fun i _ => n - (intOf i).toNat)
    case atStart => exact ⟨0, Nat.zero_le _, rfl, Below.refl _ _, rfl⟩
    case round =>
      obtain ⟨k, hk, rfl, HF, HS⟩ := hrel
      by_cases hlt : k < n
      · have hlt' : k < n' := HN.out ▸ hlt
        obtain ⟨ad, rfl, hE⟩ := (H.out.go sRc HF.out).els (by omega)
        obtain ⟨ad', rfl, hE'⟩ := (H'.out.go sRc HF.out).els (by omega)
        obtain ⟨a, ha, hra⟩ := hE.row hlt
        obtain ⟨b, hb, hrb⟩ := hE'.row hlt'
        obtain ⟨A1, n1, c1, D1, k1, d1, ⟨m0, m1, m2, m3, m4, m5, m6, m7, m8, m9, m10, m11, m12⟩, _, hy1, hz1⟩ := eRc_at hra
        obtain ⟨A2, n2, c2, D2, k2, d2, ⟨q0, q1, q2, q3, q4, q5, q6, q7, q8, q9, q10, q11, q12⟩, _, hy2, hz2⟩ := eRc_at hrb
        have HS' : Hid (decide (xs = ys) = (decide (a = b) && decide (xs.drop (k + 1) = ys.drop (k + 1)))) := drop_eq_cons ha hb HS.out
        have hlb : (ad'.add (k * 13)).block < wr.heap.size := by rw [block_of_add]; exact hE'.2.1
        clear HS ha hb hE hE' hra hrb
        (have Hy1 := Lib.hid hy1; clear hy1; have Hy2 := Lib.hid hy2; clear hy2; have Hz1 := Lib.hid hz1; clear hz1; have Hz2 := Lib.hid hz2; clear hz2)
        go_wp2_with fail
        refine (HFN.out ((wr.alloc (.cells #[.int .i64 a.kind, .int .i64 a.place, .int .i64 a.n, .int .i64 a.try_, .int .i64 a.h.frm, .int .i64 a.h.seq, .int .i64 a.h.to, .int .i64 a.h.till, .int .i64 a.h.bytes, .int .i64 a.h.block, .int .i64 a.s.id, .slice A1 n1 c1, .slice D1 k1 d1] 40)).alloc (.cells #[.int .i64 b.kind, .int .i64 b.place, .int .i64 b.n, .int .i64 b.try_, .int .i64 b.h.frm, .int .i64 b.h.seq, .int .i64 b.h.to, .int .i64 b.h.till, .int .i64 b.h.bytes, .int .i64 b.h.block, .int .i64 b.s.id, .slice A2 n2 c2, .slice D2 k2 d2] 40)) a b _ _ _ _ _ _ _ _ _ _ _ _ (Hy1.out.go (by (repeat' (first | exact Below.refl _ _ | refine below_drewN ?_ _ | refine Below.drew ?_ | refine frA ?_ _)))) (Hz1.out.go (by (repeat' (first | exact Below.refl _ _ | refine below_drewN ?_ _ | refine Below.drew ?_ | refine frA ?_ _)))) (Hy2.out.go (by (repeat' (first | exact Below.refl _ _ | refine below_drewN ?_ _ | refine Below.drew ?_ | refine frA ?_ _)))) (Hz2.out.go (by (repeat' (first | exact Below.refl _ _ | refine below_drewN ?_ _ | refine Below.drew ?_ | refine frA ?_ _))))).mono ?_
        rintro e w1 ⟨rfl, hf1⟩
        have HF1 : Hid (Fr w w1) := Fr.trans (by (repeat' (first | exact Below.refl _ _ | refine below_drewN ?_ _ | refine Below.drew ?_ | refine frA ?_ _ | refine Fr.trans ?_ HF.out))) hf1
        clear hf1 m0 m1 m2 m3 m4 m5 m6 m7 m8 m9 m10 m11 m12 q0 q1 q2 q3 q4 q5 q6 q7 q8 q9 q10 q11 q12
        by_cases hab : a = b
        · have hd : decide (a = b) = true := decide_eq_true hab
          clear hab
          go_wp2_with fail
          go_roundw
          case rel => exact ⟨k + 1, by omega, by go_num, HF1, by rw [Hid, HS'.out, hd]; simp⟩
          case measure => simp [intOf]; omega
        · have hd : decide (a = b) = false := decide_eq_false hab
          clear hab
          go_wp2_with fail
          go_ret
          exact ⟨retB (by rw [HS'.out, hd]; simp), HF1.out⟩
      · have HT : Hid (decide (xs = ys) = true) := by
          have h1 := H.out.1
          have h2 := H'.out.1
          rw [Hid, HS.out, List.drop_eq_nil_of_le (by omega), List.drop_eq_nil_of_le (by have := HN.out; omega)]; rfl
        go_wp2_with fail
        go_ret
        exact ⟨retB HT.out.symm, HF.out⟩
  · have hne : ((n : Int) != (n' : Int)) = true := by rw [bne_iff_ne]; omega
    have HF : Hid (decide (xs = ys) = false) := by
      rw [Hid, decide_eq_false_iff_not]; rintro rfl; exact hn (H.out.1.symm.trans H'.out.1)
    go_enter Tryz.func22, Tryz.ntmps22
    go_wp2_with fail
    go_ret
    exact ⟨retB HF.out.symm, Below.refl _ _⟩

theorem entersNS : ∀ (args : Array Value) (W : World), (callFunc 23 args).run Tryz.prog W = .ok (.enter 23 args) W :=
  entersW Tryz.func23 (by kernel_rfl) (by kernel_rfl)
end Go.Proofs.YtmiaplgfbphfmaaGreatDoor
namespace Go.Proofs.YtmiaplgfbphfmaaGreatDoor
open Go.RowKit
attribute [local irreducible] wpList

section
variable {α : Type} {size : Nat} {r : ERd α}
end
/-- A disk at a place of its own. -/
def DkAt (w : World) (p : Nat) (d : Dk) : Prop := ∃ A n c B m e, w.heap[p]? = some (.cells #[.slice A n c, .slice B m e] 43 (0, 0)) ∧ Byt w (fun b => b < w.heap.size ∧ b ≠ p) A n c d.safe ∧ Byt w (fun b => b < w.heap.size ∧ b ≠ p) B m e d.wait
theorem DkAt.go {w w' : World} {p : Nat} {d : Dk} (h : DkAt w p d) (hf : Fr w w') : DkAt w' p d := by
  obtain ⟨A, n, c, B, m, e, h1, h2, h3⟩ := h
  have hk : ∀ {A : Option Addr} {n c : Nat} {l : List UInt8}, Byt w (fun b => b < w.heap.size ∧ b ≠ p) A n c l → Byt w' (fun b => b < w'.heap.size ∧ b ≠ p) A n c l := fun h => ⟨h.1, (h.2.keep sByte fun x hx => hf.cell hx.1).more sByte fun x hx => ⟨Nat.lt_of_lt_of_le hx.1 hf.size, hx.2⟩⟩
  exact ⟨A, n, c, B, m, e, blk_go h1 hf, hk h2, hk h3⟩
end Go.Proofs.YtmiaplgfbphfmaaGreatDoor
namespace Go.Proofs.YtmiaplgfbphfmaaGreatDoor
open Go.RowKit
attribute [local irreducible] wpList

set_option maxRecDepth 100000 in
set_option maxHeartbeats 8000000 in
theorem diskSync_any (w : World) (v : Vars w) (d : Dk) (A : Option Addr) (n c : Nat) (B : Option Addr) (m e : Nat) (hA : Byt w (LT w.heap.size) A n c d.safe) (hB : Byt w (LT w.heap.size) B m e d.wait) :
    Calls Tryz.prog 19 #[.agg #[.slice A n c, .slice B m e]] w (KPost w (syncF d)) := by
  obtain ⟨X, hX⟩ : ∃ X, X = syncF d := ⟨_, rfl⟩
  rw [← hX]
  have hl := hA.2.1
  have hl2 := hB.2.1
  obtain ⟨W1, hW1⟩ : ∃ W1, W1 = (w.alloc (.cells #[.slice A n c, .slice B m e] 43)).alloc (.cells #[.slice none 0 0, .slice none 0 0] 43) := ⟨_, rfl⟩
  obtain ⟨p, hp⟩ : ∃ p, p = w.heap.size := ⟨_, rfl⟩
  obtain ⟨q, hq⟩ : ∃ q, q = w.heap.size + 1 := ⟨_, rfl⟩
  have hp1 : W1.heap[p]? = some (.cells #[.slice A n c, .slice B m e] 43 (0, 0)) := by rw [hW1]; exact heap_old (heap_new hp)
  have hq1 : W1.heap[q]? = some (.cells #[.slice none 0 0, .slice none 0 0] 43 (0, 0)) := by rw [hW1]; exact heap_new (by rw [hq]; simp)
  have HF1 : Hid (Fr w W1) := by rw [hW1]; exact (frAlloc _ _).trans (frAlloc _ _)
  have HQW := Lib.hid hq
  have HP1 := Lib.hid hp1
  have HQ1 := Lib.hid hq1
  obtain ⟨ck, hck⟩ : ∃ ck, ck = diskCheck d := ⟨_, rfl⟩
  have CK : Hid (Calls Tryz.prog 67 #[.agg #[.slice A n c, .slice B m e]] W1 fun r w' => r = .returned (.int .i64 ck) ∧ Fr W1 w') := by rw [hck]; exact diskCheck_any W1 (v.go HF1.out) d A n c B m e (hA.go HF1.out) (hB.go HF1.out)
  have HV := Lib.hid v
  have HA := Lib.hid hA
  have HB := Lib.hid hB
  have HX := Lib.hid hX
  have HCK := Lib.hid hck
  (obtain ⟨bp0, bp1⟩ := box2_ hp1)
  clear hp1 hq1 hA hB hX hck v
  go_enter Tryz.func19, Tryz.ntmps19
  go_upto_region 1 with fail
  rw [← hW1, ← hq, ← hp]
  clear hW1 hp hq
  go_wp2_with fail
  (with_reducible refine (CK.out).mono ?_)
  rintro r w2 ⟨rfl, hf2⟩
  have HF2 : Hid (Fr w w2) := HF1.out.trans hf2
  have HP2 := Lib.hid (blk_go HP1.out hf2)
  have HQ2 := Lib.hid (blk_go HQ1.out hf2)
  clear hf2 CK HF1 HP1 HQ1 bp0 bp1
  by_cases h1 : ck = 0
  case neg =>
    have t1 : (ck != 0) = true := by simp [h1]
    have hx : Hid (X = (Dk.zero, ck)) := HX.out.trans (by unfold syncF; rw [← HCK.out, if_pos h1])
    have hqx := HQ2.out
    (obtain ⟨bq0, bq1⟩ := box2_ hqx)
    have y0 := blk_free (i := 0) hqx
    have y1 := blk_free (i := 1) hqx
    have lq := (Array.getElem?_eq_some_iff.1 hqx).1
    clear h1 hqx
    go_wp2_with fail
    refine bodyPost_ret (v := .tuple #[.agg #[.slice none 0 0, .slice none 0 0], .int .i64 ck]) ?_ rfl (kpost_err hx.out (bel2_ HF2.out (by have := HQW.out; omega)))
    simp [results, Tryz.results19, go_sem, bq0, bq1, lq]
  case pos =>
  have t1 : (ck != 0) = false := by simp [h1]
  have hk := diskCheck_ok (HCK.out.symm.trans h1)
  have hsz := hk.size
  have HX2 : Hid (X = if diskCheck ⟨d.safe ++ d.wait, []⟩ ≠ 0 then (Dk.zero, diskCheck ⟨d.safe ++ d.wait, []⟩) else (⟨d.safe ++ d.wait, []⟩, 0)) := HX.out.trans (by unfold syncF; rw [← HCK.out, if_neg (by simp [h1])])
  have hpx := HP2.out
  (obtain ⟨bp0, bp1⟩ := box2_ hpx)
  clear h1 hk hpx HX HCK
  go_wp2_with fail
  obtain ⟨W3, hW3⟩ : ∃ W3, W3 = w2.alloc (.cells #[.slice A n c, .slice B m e] 35) := ⟨_, rfl⟩
  obtain ⟨y, hy⟩ : ∃ y, y = w2.heap.size := ⟨_, rfl⟩
  rw [← hW3, ← hy]
  have hy3 : W3.heap[y]? = some (.cells #[.slice A n c, .slice B m e] 35 (0, 0)) := by rw [hW3]; exact heap_new hy
  have hf3 : Fr w2 W3 := by rw [hW3]; exact frAlloc _ _
  have HF3 : Hid (Fr w W3) := HF2.out.trans hf3
  have HQ3 := Lib.hid (blk_go HQ2.out hf3)
  have CC : Hid (Calls Tryz.prog 70 #[.slice (some ⟨y, 0, none⟩) 2 2] W3 fun r w' => ∃ u, r = .returned u ∧ Own 1 eByte w' W3.heap.size 5 u (d.safe ++ d.wait) ∧ Fr W3 w') := by
    have hsl := sl_two hy3 (blk_LT hy3) (HA.out.go HF3.out) (HB.out.go HF3.out)
    have := concatDBytes_any W3 _ 2 2 _ hsl (by unfold lim; omega) (by simp [lens]; unfold lim; omega) (by simp [lens]; unfold lim; omega)
    rw [show ([d.safe, d.wait] : List (List UInt8)).flatten = d.safe ++ d.wait by simp] at this
    exact this
  clear hW3 hy hy3 hf3 HF2 HP2 HQ2 bp0 bp1
  (with_reducible refine (CC.out).mono ?_)
  rintro r w4 ⟨u, rfl, ho, hf4⟩
  have hlen : (d.safe ++ d.wait).length ≤ 60000 := by rw [List.length_append]; omega
  obtain ⟨A5, c5, rfl, hb5⟩ := ho.byt (by unfold lim; omega)
  obtain ⟨L, hL⟩ : ∃ L, L = d.safe ++ d.wait := ⟨_, rfl⟩
  obtain ⟨N, hN⟩ : ∃ N, N = L.length := ⟨_, rfl⟩
  rw [← hL, ← hN] at hb5
  rw [← hL, ← hN]
  rw [← hL] at HX2
  have HF4 : Hid (Fr w w4) := HF3.out.trans hf4
  have HQ4 := Lib.hid (blk_go HQ3.out hf4)
  have HB5 := Lib.hid hb5
  have h3w := HF3.out.size
  have hqw3 : q < W3.heap.size := (Array.getElem?_eq_some_iff.1 HQ3.out).1
  clear ho hf4 CC hb5 HF3 HQ3 hlen hN
  go_upto_region 5 with fail
  obtain ⟨W6, hW6⟩ : ∃ W6, W6 = w4.alloc (.cells #[.slice A5 N c5, .slice none 0 0] 43) := ⟨_, rfl⟩
  obtain ⟨z, hz⟩ : ∃ z, z = w4.heap.size := ⟨_, rfl⟩
  rw [← hW6, ← hz]
  have hz6 : W6.heap[z]? = some (.cells #[.slice A5 N c5, .slice none 0 0] 43 (0, 0)) := by rw [hW6]; exact heap_new hz
  have hf6 : Fr w4 W6 := by rw [hW6]; exact frAlloc _ _
  have HF6 : Hid (Fr w W6) := HF4.out.trans hf6
  have HQ6 := Lib.hid (blk_go HQ4.out hf6)
  have HZ6 := Lib.hid hz6
  have HB6 : Hid (Byt W6 (NW W3.heap.size W6.heap.size) A5 N c5 L) := ⟨HB5.out.1, (HB5.out.2.keep sByte fun x hx => hf6.cell hx.2).more sByte fun x hx => ⟨hx.1, Nat.lt_of_lt_of_le hx.2 hf6.size⟩⟩
  obtain ⟨c2, hc2⟩ : ∃ c2, c2 = diskCheck ⟨L, []⟩ := ⟨_, rfl⟩
  rw [← hc2] at HX2
  have CK2 : Hid (Calls Tryz.prog 67 #[.agg #[.slice A5 N c5, .slice none 0 0]] W6 fun r w' => r = .returned (.int .i64 c2) ∧ Fr W6 w') := by rw [hc2]; exact diskCheck_any W6 (HV.out.go HF6.out) ⟨L, []⟩ A5 N c5 none 0 0 ⟨HB6.out.1, HB6.out.2.nw sByte⟩ byt_nil
  have hzx := HZ6.out
  (obtain ⟨bz0, bz1⟩ := box2_ hzx)
  clear hW6 hz hz6 hf6 HF4 HQ4 HB5 hc2 hzx hL
  go_wp2_with fail
  (with_reducible refine (CK2.out).mono ?_)
  rintro r w7 ⟨rfl, hf7⟩
  have HF7 : Hid (Fr w w7) := HF6.out.trans hf7
  have hqx := blk_go HQ6.out hf7
  have hzx := blk_go HZ6.out hf7
  have HF67 := Lib.hid hf7
  clear hf7 CK2 HF6 HQ6 HZ6 bz0 bz1
  (obtain ⟨bq0, bq1⟩ := box2_ hqx)
  (obtain ⟨bz0, bz1⟩ := box2_ hzx)
  have y0 := blk_free (i := 0) hqx
  have y1 := blk_free (i := 1) hqx
  have lq := (Array.getElem?_eq_some_iff.1 hqx).1
  by_cases h2 : c2 = 0
  case neg =>
    have t2 : (c2 != 0) = true := by simp [h2]
    have hx : Hid (X = (Dk.zero, c2)) := HX2.out.trans (if_pos h2)
    clear h2 hqx hzx
    go_wp2_with fail
    refine bodyPost_ret (v := .tuple #[.agg #[.slice none 0 0, .slice none 0 0], .int .i64 c2]) ?_ rfl (kpost_err hx.out (bel2_ HF7.out (by have := HQW.out; omega)))
    simp [results, Tryz.results19, go_sem, bq0, bq1, lq]
  case pos =>
  have t2 : (c2 != 0) = false := by simp [h2]
  have hx : Hid (X = (⟨L, []⟩, 0)) := HX2.out.trans (if_neg (by simp [h2]))
  have KEY : Hid (∀ W9, Chg (fun b => b = q) w7 W9 → Fr w W9 → KPost w X (.returned (.tuple #[.agg #[.slice A5 N c5, .slice none 0 0], .int .i64 0])) W9) := by
    intro W9 hC hF
    have hs := HF67.out.size
    have hs9 := hC.size
    rw [hx.out]
    refine ⟨A5, N, c5, none, 0, 0, rfl, ⟨HB6.out.1, ((HB6.out.2.keep sByte fun x hx => HF67.out.cell hx.2).chg sByte hC fun b hb => ⟨Nat.lt_of_lt_of_le hb.2 hs, fun e => by have e : b = q := e; have := hb.1; omega⟩).more sByte fun b hb => ⟨by have := hb.1; omega, by have := hb.2; omega⟩⟩, byt_nil, hF⟩
  clear h2 hqx hzx
  go_wp2_with fail
  refine bodyPost_ret (v := .tuple #[.agg #[.slice A5 N c5, .slice none 0 0], .int .i64 0]) ?_ rfl (KEY.out _ (Chg.of (grw2_ ⟨rfl, rfl, rfl, Nat.le_refl _, fun _ _ _ => rfl⟩)) (bel2_ HF7.out (by have := HQW.out; omega)))
  simp [results, Tryz.results19, go_sem, bq0, bq1, lq]
end Go.Proofs.YtmiaplgfbphfmaaGreatDoor
namespace Go.Proofs.YtmiaplgfbphfmaaGreatDoor
open Go.RowKit
attribute [local irreducible] wpList

end Go.Proofs.YtmiaplgfbphfmaaGreatDoor
namespace Go.Proofs.YtmiaplgfbphfmaaGreatDoor
open Go.RowKit
attribute [local irreducible] wpList

/-- What disk.Recover leaves. -/
def VPost (w : World) (X : (Dk × List Rc) × Int) (r : Ending) (w' : World) : Prop := ∃ A n c v, r = .returned (.tuple #[.agg #[.slice A n c, .slice none 0 0], v, .int .i64 X.2]) ∧ X.1.1.wait = [] ∧ Byt w' (NW w.heap.size w'.heap.size) A n c X.1.1.safe ∧ Own 13 (eNew w.heap.size eRc) w' w.heap.size 40 v X.1.2 ∧ Fr w w'
theorem vpost_err {w w' : World} {X : (Dk × List Rc) × Int} {c : Int} (h : X = ((Dk.zero, []), c)) (hf : Fr w w') : VPost w X (.returned (.tuple #[.agg #[.slice none 0 0, .slice none 0 0], .slice none 0 0, .int .i64 c])) w' := by
  subst h
  exact ⟨none, 0, 0, _, rfl, rfl, byt_nil, Own.nil, hf⟩
section
variable {α : Type} {size : Nat} {r : ERd α} {w w' : World} {base : Nat} {e : TypeId} {v : Value} {xs : List α}
theorem run_append_nil1 {P : Program} (t ty : TypeId) (i : TypeInfo) (c : Nat) (cs : List Value) (ht : P.underlying t = some (.slice e)) (hi : P.info? e = some i) (n : Nat) (hown : w.ownsRow base e size v n cs) :
    (Builtin.append_ #[t, t] ty #[v, .slice none 0 c]).run P w = .ok v w := by
  rcases hown.2 with ⟨rfl, rfl⟩ | ⟨g, cap, cur, rfl, _, _, hnc, _⟩
  · simp [Builtin.append_, run_underlying ht, sizeOf, typeInfo, hi, Builtin.lenOf, Builtin.firstCells]
  · simp [Builtin.append_, run_underlying ht, sizeOf, typeInfo, hi, Builtin.lenOf, Builtin.firstCells, hnc, storeCells]
/-- 'append(v, s...)' as one step of a region that draws its order: s lies beside v's block. -/
theorem step_appY {P : Program} {ops : Array Oper} {o : Oper} {a : Act} {K : Act → World → Prop} {Q : Exit → Act → World → Prop} {E : Prop} (hgd : o.guard = none) (s x : Operand) (t : TypeId)
    (ho : o.op = .call { callee := .builtin .append, args := #[s, x], argTypes := #[t, t] })
    (base : Nat) (e : TypeId) (z : Value) (bytes : Nat) (ht : P.underlying t = some (.slice e)) (hi : (P.info? e).map (fun i => (i.zero, i.size, i.bytes)) = some (some z, size, bytes))
    (hzs : z.cells.size = size) (hsz : 0 < size) (st : Stable size r) (F : Full size r) (v : Value) (xs : List α)
    (hs : a.eval s = v) (hown : Own size r w base e v xs) (A : Option Addr) (n c : Nat) (ys : List α) (hx : a.eval x = .slice A n c) (hy : Sl size r w (fun b => b < w.heap.size ∧ v.ownBlock ≠ some b) A n ys)
    (h63 : xs.length + n ≤ maxLen) (hbytes : (xs.length + n) * bytes ≤ lim) (hbase : base ≤ w.heap.size) (B : Nat) (A0 : World) (hbel : Below B A0 w) (hB : B ≤ base)
    (h : ∀ v' w', Hid (Own size r w' base e v' (xs ++ ys)) → Hid (Below B A0 w') → Hid (Chg (fun k => v.ownBlock = some k) w w') → K (a.put o.dst v') w') :
    if Region.wanted o (yielded ops a.tmps) = true then Oper.wp P o a w K Q else E := by
  have hw : Region.wanted o (yielded ops a.tmps) = true := by simp [Region.wanted, hgd]
  cases A with
  | none =>
    have hn : n = 0 := by
      rcases Nat.eq_zero_or_pos n with h0 | h0
      · exact h0
      · obtain ⟨ad, e, _⟩ := hy.2 h0; cases e
    subst hn
    have hl : ys = [] := List.eq_nil_of_length_eq_zero hy.1
    subst hl
    rw [if_pos hw]
    obtain ⟨i, hi1, hi2⟩ := Option.map_eq_some_iff.1 hi
    obtain ⟨cs, hrow, hr⟩ := hown
    have hrun := run_append_nil1 (P := P) (size := size) (w := w) (v := v) (base := base) t o.type i c cs ht hi1 _ hrow
    unfold Oper.wp execOp
    simp only [ho, resolve, invoke, builtin, Sem.run_bind, Sem.run_pure, Result.andThen_ok, List.map_toArray, List.map_cons, List.map_nil, hs, hx, hrun]
    exact h v w (by rw [List.append_nil]; exact ⟨cs, hrow, hr⟩) hbel (Chg.refl _ _)
  | some ad =>
    obtain ⟨cs, hcl, hcc, hc1, hcr⟩ : ∃ cs : List Value, cs.length = n * size ∧ (∀ j u, cs[j]? = some u → w.cell? (ad.add j) = some u) ∧ (∀ u ∈ cs, u.oneCell' = true) ∧ ∀ i x, ys[i]? = some x → r w (fun b => b < w.heap.size ∧ v.ownBlock ≠ some b) (fun j => cs[i * size + j]?) x := by
      rcases Nat.eq_zero_or_pos n with h0 | h0
      · have hl : ys = [] := List.eq_nil_of_length_eq_zero (by rw [hy.1]; exact h0)
        exact ⟨[], by simp [h0], fun j u hu => by simp at hu, fun u hu => by simp at hu, fun i x hx => by simp [hl] at hx⟩
      · obtain ⟨ad', e', hE⟩ := hy.els h0
        injection e' with e'
        subst e'
        obtain ⟨cs, k1, k2, k3, k4⟩ := hE.cells F st hsz
        exact ⟨cs, k1, k2, k3, k4⟩
    refine step_apps (w := w) hgd s x t ho base e z size bytes ht hi hzs hsz st v xs hs hown ad n c cs hx hcl hcc hc1 ys hy.1 hcr h63 hbytes hbase fun v' w' h1 h2 h3 => h v' w' h1 ?_ ?_
    · exact hbel.grown h2 (Nat.le_trans hB hbase) fun k hk => Nat.le_trans hB (h3 k hk)
    · exact ⟨h2.os, h2.tape, h2.output, h2.size, fun k hk hs => h2.block k hk fun e => hs e.symm⟩
theorem Own.newLe {N N' : Nat} (s : Stable size r) (h : Own size (eNew N r) w base e v xs) (hN : N' ≤ N) : Own size (eNew N' r) w base e v xs := by
  obtain ⟨cs, ho, hr⟩ := h
  exact ⟨cs, ho, fun i x hx => s.more (fun b hb => ⟨hb.1, Nat.le_trans hN hb.2⟩) (hr i x hx)⟩
theorem Sl.new {N : Nat} {S : Nat → Prop} {A : Option Addr} {n : Nat} (s : Stable size r) (h : Sl size r w S A n xs) (hN : ∀ b, S b → N ≤ b) : Sl size (eNew N r) w S A n xs :=
  ⟨h.1, fun hn => by obtain ⟨ad, e, hS, hr⟩ := h.2 hn; exact ⟨ad, e, hS, fun i x hx => s.more (fun b hb => ⟨hb, hN b hb⟩) (hr i x hx)⟩⟩
theorem Own.newChg {N : Nat} {T : Nat → Prop} (s : Stable size r) (h : Own size (eNew N r) w base e v xs) (k : Chg T w w') (hT : ∀ b, T b → b < N ∧ b < base) : Own size (eNew N r) w' base e v xs := by
  obtain ⟨cs, ho, hr⟩ := h
  refine ⟨cs, ⟨ho.1, ?_⟩, fun i x hx => ?_⟩
  · rcases ho.2 with h0 | ⟨g, cap, cur, h1, h2, h3, h4⟩
    · exact .inl h0
    · exact .inr ⟨g, cap, cur, h1, h2, k.blk h3 (fun e => by have := hT g e; omega), h4⟩
  · exact s.more (fun b hb => ⟨⟨Nat.lt_of_lt_of_le hb.1.1 k.size, hb.1.2⟩, hb.2⟩) (s.keep (fun p hp => k.cell hp.1.1 fun e => by have := hT _ e; have := hp.2; omega) (hr i x hx))
/-- It reads as a list, off new blocks. -/
theorem Own.slN {N : Nat} (s : Stable size r) (h : Own size (eNew N r) w base e v xs) (hN : N ≤ base) : ∃ A c, v = .slice A xs.length c ∧ (xs.length ≤ c ∧ c ≤ maxLen) ∧ Sl size r w (NW N w.heap.size) A xs.length xs := by
  obtain ⟨cs, ho, hr⟩ := h
  rcases ho.2 with ⟨rfl, h0⟩ | ⟨g, cap, cur, rfl, hbg, hg, hnc, hcm, hcs, htake⟩
  · exact ⟨none, 0, by rw [h0], ⟨by omega, by unfold maxLen; omega⟩, rfl, fun hn => by omega⟩
  · refine ⟨some ⟨g, 0, none⟩, cap, rfl, ⟨hnc, hcm⟩, rfl, fun hn => ⟨_, rfl, ⟨Nat.le_trans hN hbg, (Array.getElem?_eq_some_iff.1 hg).1⟩, fun i x hx => ?_⟩⟩
    refine s.mono (fun j u hj hu => ?_) (s.more (fun b hb => ⟨hb.2, hb.1.1⟩) (hr i x hx))
    rw [zero_add_addr, cell_of_heap hg]
    rw [← htake, List.getElem?_take] at hu
    split at hu
    · simpa using hu
    · cases hu
end
set_option maxRecDepth 100000 in
set_option maxHeartbeats 8000000 in
theorem diskRecover_any (w : World) (v : Vars w) (d : Dk) (A : Option Addr) (n c : Nat) (B : Option Addr) (m e : Nat) (hA : Byt w (LT w.heap.size) A n c d.safe) (hB : Byt w (LT w.heap.size) B m e d.wait) :
    Calls Tryz.prog 20 #[.agg #[.slice A n c, .slice B m e]] w (VPost w (recoverF d)) := by
  obtain ⟨X, hX⟩ : ∃ X, X = recoverF d := ⟨_, rfl⟩
  rw [← hX]
  have hl := hA.2.1
  have hl2 := hB.2.1
  obtain ⟨W1, hW1⟩ : ∃ W1, W1 = (w.alloc (.cells #[.slice A n c, .slice B m e] 43)).alloc (.cells #[.slice none 0 0, .slice none 0 0] 43) := ⟨_, rfl⟩
  obtain ⟨p, hp⟩ : ∃ p, p = w.heap.size := ⟨_, rfl⟩
  obtain ⟨q, hq⟩ : ∃ q, q = w.heap.size + 1 := ⟨_, rfl⟩
  have hp1 : W1.heap[p]? = some (.cells #[.slice A n c, .slice B m e] 43 (0, 0)) := by rw [hW1]; exact heap_old (heap_new hp)
  have hq1 : W1.heap[q]? = some (.cells #[.slice none 0 0, .slice none 0 0] 43 (0, 0)) := by rw [hW1]; exact heap_new (by rw [hq]; simp)
  have HF1 : Hid (Fr w W1) := by rw [hW1]; exact (frAlloc _ _).trans (frAlloc _ _)
  have HQW := Lib.hid hq
  have HP1 := Lib.hid hp1
  have HQ1 := Lib.hid hq1
  obtain ⟨ck, hck⟩ : ∃ ck, ck = diskCheck d := ⟨_, rfl⟩
  have CK : Hid (Calls Tryz.prog 67 #[.agg #[.slice A n c, .slice B m e]] W1 fun r w' => r = .returned (.int .i64 ck) ∧ Fr W1 w') := by rw [hck]; exact diskCheck_any W1 (v.go HF1.out) d A n c B m e (hA.go HF1.out) (hB.go HF1.out)
  have HV := Lib.hid v
  have HA := Lib.hid hA
  have HB := Lib.hid hB
  have HX := Lib.hid hX
  have HCK := Lib.hid hck
  (obtain ⟨bp0, bp1⟩ := box2_ hp1)
  clear hp1 hq1 hA hB hX hck v
  go_enter Tryz.func20, Tryz.ntmps20
  go_upto_region 1 with fail
  rw [← hW1, ← hq, ← hp]
  have NE : q ≠ p := by omega
  clear hW1 hp hq
  go_wp2_with fail
  (with_reducible refine (CK.out).mono ?_)
  rintro r w2 ⟨rfl, hf2⟩
  have HF2 : Hid (Fr w w2) := HF1.out.trans hf2
  have HP2 := Lib.hid (blk_go HP1.out hf2)
  have HQ2 := Lib.hid (blk_go HQ1.out hf2)
  clear hf2 CK HF1 HP1 HQ1 bp0 bp1
  by_cases h1 : ck = 0
  case neg =>
    have t1 : (ck != 0) = true := by simp [h1]
    have hx : Hid (X = ((Dk.zero, []), ck)) := HX.out.trans (by unfold recoverF; rw [← HCK.out, if_pos h1])
    have hqx := HQ2.out
    (obtain ⟨bq0, bq1⟩ := box2_ hqx)
    have y0 := blk_free (i := 0) hqx
    have y1 := blk_free (i := 1) hqx
    have lq := (Array.getElem?_eq_some_iff.1 hqx).1
    clear h1 hqx
    go_wp2_with fail
    refine bodyPost_ret (v := .tuple #[.agg #[.slice none 0 0, .slice none 0 0], .slice none 0 0, .int .i64 ck]) ?_ rfl (vpost_err hx.out (bel2_ HF2.out (by have := HQW.out; omega)))
    simp [results, Tryz.results20, go_sem, bq0, bq1, lq]
  case pos =>
  have t1 : (ck != 0) = false := by simp [h1]
  have hk := diskCheck_ok (HCK.out.symm.trans h1)
  have hsz := hk.size
  have hmany := hk.many
  obtain ⟨Y, hY⟩ : ∃ Y, Y = linesF 200 d.safe := ⟨_, rfl⟩
  rw [← hY] at hmany
  obtain ⟨Z, hZ⟩ : ∃ Z, Z = linesF (200 - Y.1.length) d.wait := ⟨_, rfl⟩
  have hx : Hid (X = ((⟨d.safe ++ d.wait.take Z.2.1, []⟩, Y.1 ++ Z.1), 0)) := HX.out.trans (by unfold recoverF; rw [← HCK.out, if_neg (by simp [h1]), hZ, hY])
  have hzl : Z.2.1 ≤ m := by rw [hZ, ← hl2]; exact linesF_le
  have hzm : Z.1.length ≤ 200 - Y.1.length := by rw [hZ]; exact (linesF_ok _ _).many
  rw [hl, hl2] at hsz
  have HSZ := Lib.hid hsz
  have hcv := conv_bytes w2 c (HA.out.2.go sByte HF2.out)
  have LN : Hid (Calls Tryz.prog 71 #[sV d.safe, .int .i64 200] w2 (LPost w2 Y)) := by rw [hY]; exact lines_any w2 (HV.out.go HF2.out) d.safe (by omega) 200 (by omega)
  have hpx := HP2.out
  (obtain ⟨bp0, bp1⟩ := box2_ hpx)
  have HY := Lib.hid hY
  have HZ := Lib.hid hZ
  have HZL := Lib.hid hzl
  clear h1 HX HCK hk hpx hsz hY hZ hzl
  go_wp2_with fail
  (with_reducible refine (LN.out).mono ?_)
  rintro r w3 ⟨v1, rfl, ho3, hf3⟩
  have HF3 : Hid (Fr w w3) := HF2.out.trans hf3
  have HF23 := Lib.hid hf3
  have HP3 := Lib.hid (blk_go HP2.out hf3)
  have HQ3 := Lib.hid (blk_go HQ2.out hf3)
  have HO3 := Lib.hid ho3
  obtain ⟨A3, c3, rfl, ⟨hac, hcm⟩, _⟩ := ho3.slC (sRc.newer _) (by decide)
  have HP2' := HP2
  clear ho3 hf3 LN bp0 bp1 hcv t1 HP2
  have hcv := conv_bytes w3 e (HB.out.2.go sByte HF3.out)
  obtain ⟨k1, hk1⟩ : ∃ k1, k1 = Y.1.length := ⟨_, rfl⟩
  have hk1' : k1 ≤ 200 := by omega
  have hw1 : IntKind.i64.wrap ((200 : Int) - (k1 : Int)) = ((200 - k1 : Nat) : Int) := by rw [IntKind.wrap_i64]; omega
  have LN2 : Hid (Calls Tryz.prog 71 #[sV d.wait, .int .i64 ((200 - k1 : Nat) : Int)] w3 (LPost w3 Z)) := by rw [HZ.out, ← hk1]; exact lines_any w3 (HV.out.go HF3.out) d.wait (by have := HSZ.out; omega) _ (by omega)
  rw [← hk1]
  have hpx := HP3.out
  (obtain ⟨bp0, bp1⟩ := box2_ hpx)
  have HK1 := Lib.hid hk1
  have HHM := Lib.hid hmany
  have HZM := Lib.hid hzm
  clear hpx hmany hzm hk1 hac
  go_wp2_with fail
  (with_reducible refine (LN2.out).mono ?_)
  rintro r w4 ⟨v2, rfl, ho4, hf4⟩
  have HF4 : Hid (Fr w w4) := HF3.out.trans hf4
  have HF24 : Fr w2 w4 := HF23.out.trans hf4
  have HQ4 := Lib.hid (blk_go HQ3.out hf4)
  have HP4 := Lib.hid (blk_go HP3.out hf4)
  have h23 := HF23.out.size
  have h34 := hf4.size
  have HO4 : Hid (Own 13 (eNew w2.heap.size eRc) w4 w2.heap.size 40 (.slice A3 k1 c3) Y.1) := by
    have := HO3.out.fr (sRc.newer _) hf4
    rw [HK1.out]
    exact this
  obtain ⟨A4, c4, rfl, ⟨hac4, hcm4⟩, hs4⟩ := ho4.slN sRc (Nat.le_refl _)
  have hown3 : ∀ k, (Value.slice A3 k1 c3).ownBlock = some k → w2.heap.size ≤ k ∧ k < w3.heap.size := by
    obtain ⟨cs, ho, _⟩ := HO3.out
    intro k hk
    rw [HK1.out] at hk
    exact ho.lt k hk
  have HS4 := Lib.hid hs4
  have HOW3 := Lib.hid hown3
  obtain ⟨n4, hn4⟩ : ∃ n4, n4 = Z.1.length := ⟨_, rfl⟩
  obtain ⟨kz, hkz⟩ : ∃ kz, kz = Z.2.1 := ⟨_, rfl⟩
  have HN4 := Lib.hid hn4
  have hkm : kz ≤ m := by rw [hkz]; exact HZL.out
  rw [← hkz, ← hn4]
  rw [← hkz] at hx
  have HKE := HB.out.1
  have CC : Hid (∀ W y, Fr w W → W.heap[y]? = some (.cells #[.slice A n c, .slice B kz e] 35 (0, 0)) → Calls Tryz.prog 70 #[.slice (some ⟨y, 0, none⟩) 2 2] W fun r w' => ∃ u, r = .returned u ∧ Own 1 eByte w' W.heap.size 5 u (d.safe ++ d.wait.take kz) ∧ Fr W w') := by
    intro W y hf hy
    have hsl := sl_two hy (blk_LT hy) (HA.out.go hf) (⟨by have := HB.out.1; omega, (HB.out.2.go sByte hf).pre hkm⟩ : Byt W _ B kz e (d.wait.take kz))
    have hl9 : (d.safe ++ d.wait.take kz).length ≤ 60000 := by rw [List.length_append, List.length_take]; have := HSZ.out; omega
    have := concatDBytes_any W _ 2 2 _ hsl (by unfold lim; omega) (by simp [lens]; unfold lim; rw [List.length_append, List.length_take] at hl9; omega) (by simp [lens]; unfold lim; rw [List.length_append, List.length_take] at hl9; omega)
    rw [show ([d.safe, d.wait.take kz] : List (List UInt8)).flatten = d.safe ++ d.wait.take kz by simp] at this
    exact this
  have hje : kz ≤ e := by have := HB.out.1; omega
  have i1 : (kz : Int) ≤ (e : Int) := by omega
  have i2 : 0 ≤ (kz : Int) := by omega
  have hpm : Y.1.length + n4 ≤ maxLen := by have := HHM.out; have := HZM.out; unfold maxLen; omega
  have hpb : (Y.1.length + n4) * 136 ≤ lim := by have := HHM.out; have := HZM.out; unfold lim; omega
  have hpx := HP4.out
  (obtain ⟨bp0, bp1⟩ := box2_ hpx)
  clear ho4 hf4 LN2 hcv hpx hkz hn4 hs4 hac4 hown3
  go_wp2_with fail
  have hSC : Hid (∀ w', Fr w4 w' → w'.cell? ⟨p, 0, none⟩ = some (.slice A n c) ∧ w'.cell? ⟨p, 1, none⟩ = some (.slice B m e)) := fun w' hf => ⟨(hf.cell (World.block_lt_of_cell? w4 _ bp0)).trans bp0, (hf.cell (World.block_lt_of_cell? w4 _ bp1)).trans bp1⟩
  refine held_begin (n := 15) (bs := #[false, false, false, false, false, false, false, false, false, false, false, false, false, false, false]) rfl rfl (by kernel_rfl) (S := fun w' => w'.cell? ⟨p, 0, none⟩ = some (.slice A n c) ∧ w'.cell? ⟨p, 1, none⟩ = some (.slice B m e)) (hSC.out _ (Below.refl _ _).drew) (fun hHeld => ?_)
  ((first | refine held_sk (i := 0) ?_ | refine held_tk (i := 0) ?_); (first | refine held_sk (i := 1) ?_ | refine held_tk (i := 1) ?_); (first | refine held_sk (i := 2) ?_ | refine held_tk (i := 2) ?_); (first | refine held_sk (i := 3) ?_ | refine held_tk (i := 3) ?_); (first | refine held_sk (i := 4) ?_ | refine held_tk (i := 4) ?_); (first | refine held_sk (i := 5) ?_ | refine held_tk (i := 5) ?_); (first | refine held_sk (i := 9) ?_ | refine held_tk (i := 9) ?_); (first | refine held_sk (i := 10) ?_ | refine held_tk (i := 10) ?_))
  refine held_one (i := 6) rfl (by kernel_rfl) (fun K hK => ?_)
  go_simp
  obtain ⟨w5, hw5⟩ : ∃ W : World, W = (World.alloc w4 (.cells #[.slice A n c, .slice B kz e] 35)).drew := ⟨_, rfl⟩
  obtain ⟨y5, hy5⟩ : ∃ y : Nat, y = w4.heap.size := ⟨_, rfl⟩
  rw [← hw5]
  have hk5 : w5.heap[y5]? = some (.cells #[.slice A n c, .slice B kz e] 35 (0, 0)) := by rw [hw5]; exact heap_d (heap_new hy5)
  have hf45 : Fr w4 w5 := by rw [hw5]; exact (frAlloc _ _).drew
  clear hw5
  subst hy5
  (refine held_back hK (a' := ?hA7) (l' := ?hL7) ?ha7 ?hl7 (hSC.out _ hf45) (fun hHeld => ?hh7); (case ha7 => first | with_reducible rfl | (simp only [Act.put, hq1, hq2, hq3, Option.isNone, Bool.not_true, Bool.not_false]; (try with_reducible rfl))); (case hl7 => (simp only [Act.put, hq1, hq2, hq3, Option.isNone, Bool.not_true, Bool.not_false]; (try with_reducible rfl))); clear hK K)
  refine held_one (i := 7) rfl (by kernel_rfl) (fun K hK => ?_)
  go_simp
  go_at_call 70
  (with_reducible refine (CC.out _ _ (HF4.out.trans hf45) hk5).mono ?_)
  rintro r w6 ⟨u, rfl, ho6, hf6⟩
  have hl9 : (d.safe ++ d.wait.take kz).length ≤ lim := by rw [List.length_append, List.length_take]; have := HSZ.out; unfold lim; omega
  obtain ⟨A6, c6, rfl, hb6⟩ := ho6.byt hl9
  obtain ⟨L, hL⟩ : ∃ L, L = d.safe ++ d.wait.take kz := ⟨_, rfl⟩
  obtain ⟨n6, hn6⟩ : ∃ n6, n6 = L.length := ⟨_, rfl⟩
  rw [← hL, ← hn6] at hb6
  rw [← hL, ← hn6]
  rw [← hL] at hx
  have hf46 : Fr w4 w6 := hf45.trans hf6
  have hf26 : Fr w2 w6 := HF24.trans hf46
  have h45 := hf45.size
  have h46 := hf46.size
  have HB6 := Lib.hid hb6
  clear ho6 hf6 hb6 hl9 hL hn6 hk5
  (refine held_back hK (a' := ?hA8) (l' := ?hL8) ?ha8 ?hl8 (hSC.out _ hf46) (fun hHeld => ?hh8); (case ha8 => first | with_reducible rfl | (simp only [Act.put, hq1, hq2, hq3, Option.isNone, Bool.not_true, Bool.not_false]; (try with_reducible rfl))); (case hl8 => (simp only [Act.put, hq1, hq2, hq3, Option.isNone, Bool.not_true, Bool.not_false]; (try with_reducible rfl))); clear hK K)
  ((first | refine held_sk (i := 8) ?_ | refine held_tk (i := 8) ?_))
  refine held_one (i := 11) rfl (by kernel_rfl) (fun K hK => ?_)
  have HO6 : Hid (Own 13 (eNew w2.heap.size eRc) w6 w2.heap.size 40 (.slice A3 k1 c3) Y.1) := HO4.out.fr (sRc.newer _) hf46
  have HY6 : Hid (Sl 13 (eNew w2.heap.size eRc) w6 (fun b => b < w6.heap.size ∧ (Value.slice A3 k1 c3).ownBlock ≠ some b) A4 n4 Z.1) := by
    rw [HN4.out]
    refine ((HS4.out.keep sRc fun x hx => hf46.cell hx.2).new sRc fun b hb => Nat.le_trans h23 hb.1).more (sRc.newer _) fun b hb => ⟨Nat.lt_of_lt_of_le hb.2 h46, fun e => ?_⟩
    have h1 := (HOW3.out b e).2
    have h2 := hb.1
    omega
  refine step_appY rfl (.tmp 46) (.tmp 47) 22 rfl w2.heap.size 40 (.agg #[.int .i64 0, .int .i64 0, .int .i64 0, .int .i64 0, .int .i64 0, .int .i64 0, .int .i64 0, .int .i64 0, .int .i64 0, .int .i64 0, .int .i64 0, .slice none 0 0, .slice none 0 0]) 136 Tryz.underlying22 infoRec rfl (by decide) (sRc.newer _) (fRc.newer _) (.slice A3 k1 c3) Y.1 rfl HO6.out A4 n4 c4 Z.1 rfl HY6.out hpm hpb hf26.size w2.heap.size w2 hf26 (Nat.le_refl _) ?_
  intro v7 w7 HO7 HF7 HC7
  have HB7 : Hid (Byt w7 (NW w2.heap.size w7.heap.size) A6 n6 c6 L) := ⟨HB6.out.1, (HB6.out.2.keep sByte fun x hx => HC7.out.cell hx.2 fun e => by have h1 := (HOW3.out _ e).2; have h2 := hx.1; omega).more sByte fun x hx => ⟨by have h2 := hx.1; omega, Nat.lt_of_lt_of_le hx.2 HC7.out.size⟩⟩
  have HF7w : Hid (Fr w w7) := HF2.out.trans HF7.out
  have hqx := blk_go HQ2.out HF7.out
  have hqw : q < w2.heap.size := (Array.getElem?_eq_some_iff.1 HQ2.out).1
  have hpp := blk_go HP2'.out HF7.out
  (refine held_back hK (a' := ?hA9) (l' := ?hL9) ?ha9 ?hl9 (⟨cell_of_heap (i := 0) hpp, cell_of_heap (i := 1) hpp⟩) (fun hHeld => ?hh9); (case ha9 => first | with_reducible rfl | (simp only [Act.put, hq1, hq2, hq3, Option.isNone, Bool.not_true, Bool.not_false]; (try with_reducible rfl))); (case hl9 => (simp only [Act.put, hq1, hq2, hq3, Option.isNone, Bool.not_true, Bool.not_false]; (try with_reducible rfl))); clear hK K)
  (obtain ⟨bq0, bq1⟩ := box2_ hqx)
  have y0 := blk_free (i := 0) hqx
  have y1 := blk_free (i := 1) hqx
  have lq := (Array.getElem?_eq_some_iff.1 hqx).1
  refine held_one (i := 12) rfl (by kernel_rfl) (fun K hK => ?_)
  go_simp
  (refine held_back hK (a' := ?hA10) (l' := ?hL10) ?ha10 ?hl10 (⟨(set2_far NE).trans (cell_of_heap (i := 0) hpp), (set2_far NE).trans (cell_of_heap (i := 1) hpp)⟩) (fun hHeld => ?hh10); (case ha10 => first | with_reducible rfl | (simp only [Act.put, hq1, hq2, hq3, Option.isNone, Bool.not_true, Bool.not_false]; (try with_reducible rfl))); (case hl10 => (simp only [Act.put, hq1, hq2, hq3, Option.isNone, Bool.not_true, Bool.not_false]; (try with_reducible rfl))); clear hK K)
  ((first | refine held_sk (i := 13) ?_ | refine held_tk (i := 13) ?_); (first | refine held_sk (i := 14) ?_ | refine held_tk (i := 14) ?_))
  refine wpAnyH_done (by kernel_rfl) ?_ _
  have KEY : Hid (∀ W9, Chg (fun b => b = q) w7 W9 → Fr w W9 → VPost w X (.returned (.tuple #[.agg #[.slice A6 n6 c6, .slice none 0 0], v7, .int .i64 0])) W9) := by
    intro W9 hC hF
    have hs9 := hC.size
    have h2w := HF2.out.size
    rw [hx.out]
    exact ⟨A6, n6, c6, v7, rfl, rfl, ⟨HB7.out.1, (HB7.out.2.chg sByte hC fun b hb => ⟨hb.2, fun e => by have e : b = q := e; have := hb.1; omega⟩).more sByte fun b hb => ⟨by have := hb.1; omega, by have := hb.2; omega⟩⟩,
      ((HO7.out.newChg sRc hC fun b e => by have e : b = q := e; omega).newLe sRc h2w).lower h2w, hF⟩
  clear hqx hpp
  go_wp2_with fail
  refine bodyPost_ret (v := .tuple #[.agg #[.slice A6 n6 c6, .slice none 0 0], v7, .int .i64 0]) ?_ rfl (KEY.out _ (Chg.of (grw2_ ⟨rfl, rfl, rfl, Nat.le_refl _, fun _ _ _ => rfl⟩)) (bel2_ HF7w.out (by have := HQW.out; omega)))
  simp [results, Tryz.results20, go_sem, bq0, bq1, lq]
end Go.Proofs.YtmiaplgfbphfmaaGreatDoor
namespace Go.Proofs.YtmiaplgfbphfmaaGreatDoor
def fr (n : Int) : Rc := ⟨8, 0, n, 0, ⟨0, 0, 0, 0, 0, 0⟩, ⟨0, []⟩, []⟩
def ft : List UInt8 := [56, 32, 48, 32, 53, 32, 48, 32, 48, 32, 48, 32, 48, 32, 48, 32, 48, 32, 48, 32, 48, 32, 45, 32, 45, 10]
end Go.Proofs.YtmiaplgfbphfmaaGreatDoor
namespace Go.Proofs.YtmiaplgfbphfmaaGreatDoor
open Go.RowKit
attribute [local irreducible] wpList

/-- A disk laid over the one at p. -/
theorem DkAt.store {W w' : World} {p : Nat} {d : Dk} {u0 u1 : Value} {A : Option Addr} {n c : Nat} {B : Option Addr} {m e : Nat} (hp : W.heap[p]? = some (.cells #[u0, u1] 43 (0, 0))) (hf : Fr W w') (hA : Byt w' (NW W.heap.size w'.heap.size) A n c d.safe) (hB : Byt w' (NW W.heap.size w'.heap.size) B m e d.wait) :
    DkAt ((w'.setCell ⟨p, 0, none⟩ (.slice A n c)).setCell ⟨p, 1, none⟩ (.slice B m e)) p d := by
  have hp' := blk_go hp hf
  have hpw := (Array.getElem?_eq_some_iff.1 hp).1
  have hC : Chg (fun b => b = p) w' ((w'.setCell ⟨p, 0, none⟩ (.slice A n c)).setCell ⟨p, 1, none⟩ (.slice B m e)) := Chg.of (grw2_ ⟨rfl, rfl, rfl, Nat.le_refl _, fun _ _ _ => rfl⟩)
  have hs := hC.size
  have hk : ∀ {A' : Option Addr} {n' c' : Nat} {l : List UInt8}, Byt w' (NW W.heap.size w'.heap.size) A' n' c' l → Byt ((w'.setCell ⟨p, 0, none⟩ (.slice A n c)).setCell ⟨p, 1, none⟩ (.slice B m e)) (fun b => b < ((w'.setCell ⟨p, 0, none⟩ (.slice A n c)).setCell ⟨p, 1, none⟩ (.slice B m e)).heap.size ∧ b ≠ p) A' n' c' l := fun h =>
    ⟨h.1, (h.2.chg sByte hC fun b hb => ⟨hb.2, fun e => by have e : b = p := e; have := hb.1; omega⟩).more sByte fun b hb => ⟨by have := hb.2; omega, fun e => by have := hb.1; omega⟩⟩
  exact ⟨A, n, c, B, m, e, by simp [World.setCell, Array.getElem?_modify, hp'], hk hA, hk hB⟩
/-- A disk laid anew. -/
theorem DkAt.mk {w' : World} {N : Nat} {d : Dk} {A : Option Addr} {n c : Nat} {B : Option Addr} {m e : Nat} (hA : Byt w' (NW N w'.heap.size) A n c d.safe) (hB : Byt w' (NW N w'.heap.size) B m e d.wait) :
    DkAt (w'.alloc (.cells #[.slice A n c, .slice B m e] 43)) w'.heap.size d := by
  have hf : Fr w' (w'.alloc (.cells #[.slice A n c, .slice B m e] 43)) := frAlloc _ _
  have hs := hf.size
  have hk : ∀ {A' : Option Addr} {n' c' : Nat} {l : List UInt8}, Byt w' (NW N w'.heap.size) A' n' c' l → Byt (w'.alloc (.cells #[.slice A n c, .slice B m e] 43)) (fun b => b < (w'.alloc (.cells #[.slice A n c, .slice B m e] 43)).heap.size ∧ b ≠ w'.heap.size) A' n' c' l := fun h =>
    ⟨h.1, (h.2.keep sByte fun x hx => hf.cell hx.2).more sByte fun b hb => ⟨Nat.lt_of_lt_of_le hb.2 hs, fun e => by have := hb.2; omega⟩⟩
  exact ⟨A, n, c, B, m, e, heap_new rfl, hk hA, hk hB⟩
theorem byt_lt {w : World} {p : Nat} {A : Option Addr} {n c : Nat} {l : List UInt8} (h : Byt w (fun b => b < w.heap.size ∧ b ≠ p) A n c l) : Byt w (LT w.heap.size) A n c l := ⟨h.1, h.2.more sByte fun b hb => hb.1⟩
end Go.Proofs.YtmiaplgfbphfmaaGreatDoor
