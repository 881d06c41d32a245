/- 'WayBack', walked. No condition. -/
import Derived.Test.YtahkpbenebmmdaaWayPost
import Derived.Test.YtahkpbenebmmdaaCutLaw
import Derived.Deep.RegionWith
import Derived.IntWalk
set_option linter.unusedSimpArgs false
set_option linter.unusedVariables false
namespace Go.Proofs.Ytahkpbenebmmdaa
open Go.RowKit
attribute [local irreducible] wpList

theorem mlCheckL_app {r : List Ml} : ∀ {l : List Ml}, mlCheckL l = 0 → mlCheckL (l ++ r) = mlCheckL r
  | [], _ => rfl
  | m :: l, h => by
    rw [mlCheckL] at h
    split at h
    · rename_i h1; exact absurd h h1
    · rename_i h1
      rw [List.cons_append, mlCheckL, if_neg h1]
      exact mlCheckL_app h
theorem mlCheck_ok {l : List Ml} (h : mlCheck l = 0) : l.length ≤ 40 ∧ mlCheckL l = 0 := by
  unfold mlCheck at h
  split at h
  · cases h
  · exact ⟨by omega, h⟩
theorem mlCheck_snoc {l : List Ml} {m : Ml} (h : mlCheck l = 0) (h1 : mlCheck [m] = 0) (h2 : l.length < 40) : mlCheck (l ++ [m]) = 0 := by
  unfold mlCheck
  rw [if_neg (by simp; omega), mlCheckL_app (mlCheck_ok h).2]
  exact (mlCheck_ok h1).2
theorem mlSend_ok {l : List Ml} {m : Ml} (h : (mlSend l m).2 = 0) : mlCheck l = 0 ∧ mlCheck [m] = 0 := by
  unfold mlSend at h
  split at h
  · rename_i h1; exact absurd h h1
  · split at h
    · rename_i h1 h2; exact absurd h h2
    · rename_i h1 h2; exact ⟨Decidable.not_not.1 h1, Decidable.not_not.1 h2⟩
theorem mlTake_last {l : List Ml} {m : Ml} (h : mlCheck (l ++ [m]) = 0) : mlTake (l ++ [m]) (l.length : Nat) false = (l, m, 0) := by
  unfold mlTake
  rw [if_neg (by simp [h]), if_neg (by simp; omega)]
  rw [List.eraseIdx_append_of_length_le (by simp)]
  simp [List.getD]
theorem mlTake_twice {l : List Ml} {k : Nat} {x : Ml} (h : mlCheck l = 0) (hx : l[k]? = some x) : mlTake l (k : Nat) true = (l, x, 0) := by
  have hk := (List.getElem?_eq_some_iff.1 hx).1
  unfold mlTake
  rw [if_neg (by simp [h]), if_neg (by omega)]
  simp [List.getD, hx]

theorem LTnew (w : World) (o : Obj) : LT (w.alloc o).heap.size w.heap.size := by simp [LT]
theorem waySame_eq (w : World) (A A' : Option Addr) (n c n' c' : Nat) (xs : List Ml) (h : Sl 13 eMl w (LT w.heap.size) A n xs) (h' : Sl 13 eMl w (LT w.heap.size) A' n' xs) (hm : n ≤ maxLen) :
    Calls Try.prog 51 #[.slice A n c, .slice A' n' c'] w fun e w' => e = .returned (.bool true) ∧ Fr w w' :=
  (waySame_any w A A' n c n' c' xs xs h h' hm).mono fun e w' ⟨he, hf⟩ => ⟨by rw [he]; simp, hf⟩
set_option maxRecDepth 100000 in
set_option maxHeartbeats 2000000 in
theorem wayBack_any (w : World) (A : Option Addr) (n c : Nat) (ls : List Ml) (h : Sl 13 eMl w (LT w.heap.size) A n ls) (hm : n * 120 ≤ lim) (hc : n ≤ c) (hcm : c ≤ maxLen) (m : Ml) (A' : Option Addr) (n' c' : Nat) (hw : m.wf) (hy : Byt w (LT w.heap.size) A' n' c' m.f.s.data) (k : Int) (wk : wfI k) :
    Calls Try.prog 12 #[.slice A n c, .agg #[.int .i64 m.frm, .int .i64 m.to, .int .i64 m.f.kind, .int .i64 m.f.h.frm, .int .i64 m.f.h.seq, .int .i64 m.f.h.to, .int .i64 m.f.h.till, .int .i64 m.f.h.bytes, .int .i64 m.f.h.block, .int .i64 m.f.s.id, .slice A' n' c', .int .i64 m.f.n, .int .i64 m.f.try_], .int .i64 k] w fun e w' => e = .returned (.bool true) ∧ Fr w w' := by
  have hlen := h.1
  have H := Lib.hid h
  have Hy := Lib.hid hy
  obtain ⟨a, ha⟩ : ∃ a, a = (mlSend ls m).1 := ⟨_, rfl⟩
  obtain ⟨q, hq⟩ : ∃ q, q = (mlSend ls m).2 := ⟨_, rfl⟩
  have SD := Lib.hid (fun W A n c h hm A' n' c' hw hy => waySend_any W A n c ls h hm m A' n' c' hw hy)
  rw [← ha, ← hq] at SD
  by_cases h0 : q = 0
  · subst h0
    obtain ⟨k1, k2⟩ := mlSend_ok hq.symm
    have hn40 := (mlCheck_ok k1).1
    have hnm : n ≤ maxLen := by omega
    by_cases h40 : n = 40
    · have hal : Hid (a = ls) := by rw [Hid, ha]; unfold mlSend; rw [if_neg (by simp [k1]), if_neg (by simp [k2]), if_neg (by omega)]
      rw [hal.out] at SD
      have hHm := Lib.hid hm
      have h41 : ((n : Int) == 40) = true := by simp [h40]
      (have H := Lib.hid h; clear h; have Hy := Lib.hid hy; clear hy; have Hlen := Lib.hid hlen; clear hlen; have Hm := Lib.hid hm; clear hm; have Ha := Lib.hid ha; clear ha; have Hq := Lib.hid hq; clear hq; have K1 := Lib.hid k1; clear k1; have K2 := Lib.hid k2; clear k2; have H40 := Lib.hid h40; clear h40)
      go_enter Try.func12, Try.ntmps12
      go_wp2_with fail
      refine (SD.out _ A n c (H.out.go sMl (by (repeat' (first | exact Below.refl _ _ | refine below_drewN ?_ _ | refine Below.drew ?_ | refine frA ?_ _)))) hHm.out A' n' c' hw (Hy.out.go (by (repeat' (first | exact Below.refl _ _ | refine below_drewN ?_ _ | refine Below.drew ?_ | refine frA ?_ _))))).mono ?_
      rintro e w1 ⟨v1, rfl, ho1, hf1⟩
      obtain ⟨A1, c1, rfl, ⟨hc1, hx1⟩, hs1⟩ := ho1.slC sMl (by decide)
      rw [Hlen.out] at hs1 hc1 ⊢
      have HF1 : Hid (Fr w w1) := Fr.trans (frAlloc _ _) hf1
      have HS1 := Lib.hid hs1
      clear hf1 hs1 ho1
      go_wp2_with fail
      refine (posted_any _).mono ?_
      rintro e w2 ⟨rfl, hf2⟩
      (have Hf2 := Lib.hid hf2; clear hf2)
      go_wp2_with fail
      refine (waySame_any _ _ _ _ _ _ _ ls ls (HS1.out.go sMl Hf2.out) (H.out.go sMl (HF1.out.trans Hf2.out)) hnm).mono ?_
      rintro e w3 ⟨rfl, hf3⟩
      (have Hf3 := Lib.hid hf3; clear hf3)
      go_wp2_with fail
      go_ret
      exact ⟨by simp, by (repeat' (first | exact Below.refl _ _ | refine below_drewN ?_ _ | refine Below.drew ?_ | refine frA ?_ _ | refine Fr.trans ?_ Hf3.out | refine Fr.trans ?_ Hf2.out | refine Fr.trans ?_ HF1.out))⟩
    · have hn : n < 40 := by omega
      have hal : Hid (a = ls ++ [m]) := by rw [Hid, ha]; unfold mlSend; rw [if_neg (by simp [k1]), if_neg (by simp [k2]), if_pos (by omega)]
      rw [hal.out] at SD
      have hHm := Lib.hid hm
      have h41 : ((n : Int) == 40) = false := by rw [beq_eq_false_iff_ne]; omega
      have hal2 : (ls ++ [m]).length = n + 1 := by simp [hlen]
      have KA := mlCheck_snoc k1 k2 (by omega)
      have T1 : Hid (mlTake (ls ++ [m]) (n : Nat) false = (ls, m, 0)) := by rw [← hlen]; exact mlTake_last KA
      have hk0 := Int.emod_nonneg k (show ((n + 1 : Nat) : Int) ≠ 0 by omega)
      have hk1 := Int.emod_lt_of_pos k (show (0 : Int) < ((n + 1 : Nat) : Int) by omega)
      obtain ⟨kk, hkk⟩ : ∃ kk : Nat, (kk : Int) = k % ((n + 1 : Nat) : Int) := ⟨(k % ((n + 1 : Nat) : Int)).toNat, Int.toNat_of_nonneg hk0⟩
      have hkn : kk < n + 1 := by omega
      obtain ⟨x, hx⟩ : ∃ x, (ls ++ [m])[kk]? = some x := ⟨_, List.getElem?_eq_getElem (by rw [hal2]; exact hkn)⟩
      have T2 : Hid (mlTake (ls ++ [m]) (kk : Nat) true = ((ls ++ [m]), x, 0)) := mlTake_twice KA hx
      obtain ⟨a2, ha2⟩ : ∃ a2, a2 = ls ++ [m] := ⟨_, rfl⟩
      rw [← ha2] at SD KA T1 T2 hal2 hx
      have hHm2 : Hid ((n + 1) * 120 ≤ lim) := by rw [Hid]; unfold lim; omega
      have hn1l : Hid (n + 1 ≤ lim) := by rw [Hid]; unfold lim; omega
      have hn1m : Hid (n + 1 ≤ maxLen) := by rw [Hid]; unfold maxLen; omega
      have hn11 : Hid (n < n + 1) := by rw [Hid]; omega
      clear hk0 hk1 hal
      (have H := Lib.hid h; clear h; have Hy := Lib.hid hy; clear hy; have Hlen := Lib.hid hlen; clear hlen; have Hm := Lib.hid hm; clear hm; have Ha := Lib.hid ha; clear ha; have Hq := Lib.hid hq; clear hq; have K1 := Lib.hid k1; clear k1; have K2 := Lib.hid k2; clear k2; have H40 := Lib.hid h40; clear h40; have Ha2 := Lib.hid ha2; clear ha2; have Hkk := Lib.hid hkk; clear hkk; have Hx := Lib.hid hx; clear hx; have Hal2 := Lib.hid hal2; clear hal2)
      have KH := Lib.hid KA
      clear KA
      go_enter Try.func12, Try.ntmps12
      go_wp2_with fail
      refine (SD.out _ A n c (H.out.go sMl (by (repeat' (first | exact Below.refl _ _ | refine below_drewN ?_ _ | refine Below.drew ?_ | refine frA ?_ _)))) hHm.out A' n' c' hw (Hy.out.go (by (repeat' (first | exact Below.refl _ _ | refine below_drewN ?_ _ | refine Below.drew ?_ | refine frA ?_ _))))).mono ?_
      rintro e w1 ⟨v1, rfl, ho1, hf1⟩
      obtain ⟨A1, c1, rfl, ⟨hc1, hx1⟩, hs1⟩ := ho1.slC sMl (by decide)
      rw [Hal2.out] at hs1 hc1 ⊢
      have HF1 : Hid (Fr w w1) := Fr.trans (frAlloc _ _) hf1
      have HB1 : Hid (w1.heap[w.heap.size]? = some (.cells #[.int .i64 m.frm, .int .i64 m.to, .int .i64 m.f.kind, .int .i64 m.f.h.frm, .int .i64 m.f.h.seq, .int .i64 m.f.h.to, .int .i64 m.f.h.till, .int .i64 m.f.h.bytes, .int .i64 m.f.h.block, .int .i64 m.f.s.id, .slice A' n' c', .int .i64 m.f.n, .int .i64 m.f.try_] 73 (0, 0))) := blk_go (heap_new rfl) hf1
      have HS1 := Lib.hid hs1
      clear hf1 hs1 ho1
      go_wp2_with fail
      refine (posted_any _).mono ?_
      rintro e w2 ⟨rfl, hf2⟩
      (have Hf2 := Lib.hid hf2; clear hf2)
      go_wp2_with fail
      refine (wayTake_ok _ A1 (n + 1) c1 a2 (HS1.out.go sMl Hf2.out) hHm2.out hc1 hx1 n false KH.out hn11.out).mono ?_
      rw [T1.out]
      rintro e w3 ⟨v3, A3, n3, c3, rfl, hy3, ho3, hf3⟩
      obtain ⟨B3, d3, rfl, ⟨hd3, hx3⟩, hs3⟩ := ho3.slC sMl (by decide)
      rw [Hlen.out] at hs3 hd3 ⊢
      have HS3 := Lib.hid hs3
      have HY3 := Lib.hid hy3
      have HF3 := Lib.hid hf3
      have HB3 := Lib.hid (blk_go (blk_go HB1.out Hf2.out) hf3)
      clear hf3 ho3 hs3 hy3
      go_wp2_with fail
      refine (waySame_any _ _ _ _ _ _ _ ls ls (HS3.out.go sMl (frAlloc _ _)) (H.out.go sMl (by (repeat' (first | exact Below.refl _ _ | refine below_drewN ?_ _ | refine Below.drew ?_ | refine frA ?_ _ | refine Fr.trans ?_ HF3.out | refine Fr.trans ?_ Hf2.out | refine Fr.trans ?_ HF1.out)))) hnm).mono ?_
      rintro e w4 ⟨rfl, hf4⟩
      have hb4 := blk_go (heap_old HB3.out) hf4
      have hb10 := blk_go (heap_new (w := w3) rfl) hf4
      have hl1 := blk_lt5 hb4
      have hl2 := blk_lt5 hb10
      (obtain ⟨hp0, hp1, hp2, hp3, hp4, hp5, hp6, hp7, hp8, hp9, hp10, hp11, hp12⟩ := box13_ hb4)
      (obtain ⟨hr0, hr1, hr2, hr3, hr4, hr5, hr6, hr7, hr8, hr9, hr10, hr11, hr12⟩ := box13_ hb10)
      have HF4 : Hid (Fr w3 w4) := Fr.trans (frAlloc _ _) hf4
      clear hf4 hb4 hb10
      go_wp2_with fail
      refine (waySame_any _ (some ⟨w4.heap.size, 0, none⟩) (some ⟨w4.heap.size + 1, 0, none⟩) 1 1 1 1 [m] [m] (Sl.mail (m := m) (A := A3) (n := n3) (c := c3) (heap_old (heap_new rfl)) (by simp [LT]; omega) hw (HY3.out.go (by (repeat' (first | exact Below.refl _ _ | refine below_drewN ?_ _ | refine Below.drew ?_ | refine frA ?_ _ | refine Fr.trans ?_ HF4.out))))) (Sl.mail (m := m) (A := A') (n := n') (c := c') (heap_new (by simp)) (by simp [LT]) hw (Hy.out.go (by (repeat' (first | exact Below.refl _ _ | refine below_drewN ?_ _ | refine Below.drew ?_ | refine frA ?_ _ | refine Fr.trans ?_ HF4.out | refine Fr.trans ?_ HF3.out | refine Fr.trans ?_ Hf2.out | refine Fr.trans ?_ HF1.out))))) (by unfold maxLen; omega)).mono ?_
      rintro e w5 ⟨rfl, hf5⟩
      have HF5 : Hid (Fr w4 w5) := Fr.trans (frA (frAlloc _ _) _) hf5
      clear hf5 hl1 hl2 hp0 hp1 hp2 hp3 hp4 hp5 hp6 hp7 hp8 hp9 hp10 hp11 hp12 hr0 hr1 hr2 hr3 hr4 hr5 hr6 hr7 hr8 hr9 hr10 hr11 hr12
      go_wp2_with fail
      refine (at_any _ k (n + 1) (Nat.succ_pos n) hn1l.out).mono ?_
      rintro e w5' ⟨rfl, rfl⟩
      rw [← Hkk.out]
      have HS5 := Lib.hid (HS1.out.go sMl (((Hf2.out.trans HF3.out).trans HF4.out).trans HF5.out))
      have HW5 : Hid (Fr w w5) := by rw [Hid]; (repeat' (first | exact Below.refl _ _ | refine below_drewN ?_ _ | refine Below.drew ?_ | refine frA ?_ _ | refine Fr.trans ?_ HF5.out | refine Fr.trans ?_ HF4.out | refine Fr.trans ?_ HF3.out | refine Fr.trans ?_ Hf2.out | refine Fr.trans ?_ HF1.out))
      go_wp2_with fail
      refine (wayTake_ok _ A1 (n + 1) c1 a2 HS5.out hHm2.out hc1 hx1 kk true KH.out hkn).mono ?_
      rw [T2.out]
      rintro e w6 ⟨v6, A6, n6, c6, rfl, hy6, ho6, hf6⟩
      obtain ⟨B6, d6, rfl, ⟨hd6, hx6⟩, hs6⟩ := ho6.slC sMl (by decide)
      rw [Hal2.out] at hs6 hd6 ⊢
      have HS6 := Lib.hid hs6
      have HY6 := Lib.hid hy6
      have HF6 := Lib.hid hf6
      clear hf6 ho6 hs6 hy6
      obtain ⟨ad, rfl, hE1⟩ := HS5.out.els (Nat.succ_pos n)
      have hck : ¬ c1 = kk := by omega
      have HSUB : Hid (Sl 13 eMl w5 (LT w5.heap.size) (some (ad.add (kk * 13))) 1 [x]) := by
        have h1 := (HS5.out.cut (k := kk) (cap := c1) (by omega) hc1).pre (k := 1) (by omega)
        rw [if_neg hck, drop_cons Hx.out] at h1
        exact h1
      have hkc : kk + 1 ≤ c1 := by omega
      have hki : (kk : Int) + 1 ≤ (n : Int) + 1 := by omega
      have hkcI : (kk : Int) + 1 ≤ (c1 : Int) := by omega
      have hk00 : (0 : Int) ≤ (kk : Int) + 1 := by omega
      have hkk1 : (kk : Int) ≤ (kk : Int) + 1 := by omega
      have hwx : Hid x.wf := by
        obtain ⟨x', hx', hr'⟩ := hE1.row hkn
        obtain rfl : x = x' := by have := Hx.out.symm.trans hx'; injection this
        exact (eMl_at hr').choose_spec.choose_spec.choose_spec.2.1
      have hn1 : 1 ≤ maxLen := by unfold maxLen; omega
      have KEY : Hid (∀ W7, Fr w6 W7 → Calls Try.prog 51 #[.slice (some ⟨W7.heap.size, 0, none⟩) 1 1, .slice (some (ad.add (kk * 13))) 1 (c1 - kk)] (W7.alloc (.cells #[.int .i64 x.frm, .int .i64 x.to, .int .i64 x.f.kind, .int .i64 x.f.h.frm, .int .i64 x.f.h.seq, .int .i64 x.f.h.to, .int .i64 x.f.h.till, .int .i64 x.f.h.bytes, .int .i64 x.f.h.block, .int .i64 x.f.s.id, .slice A6 n6 c6, .int .i64 x.f.n, .int .i64 x.f.try_] 73)) (fun e w' => e = .returned (.bool true) ∧ Fr W7 w')) := by
        intro W7 hf
        have hb : ((W7.alloc (.cells #[.int .i64 x.frm, .int .i64 x.to, .int .i64 x.f.kind, .int .i64 x.f.h.frm, .int .i64 x.f.h.seq, .int .i64 x.f.h.to, .int .i64 x.f.h.till, .int .i64 x.f.h.bytes, .int .i64 x.f.h.block, .int .i64 x.f.s.id, .slice A6 n6 c6, .int .i64 x.f.n, .int .i64 x.f.try_] 73)).heap)[W7.heap.size]? = some (.cells #[.int .i64 x.frm, .int .i64 x.to, .int .i64 x.f.kind, .int .i64 x.f.h.frm, .int .i64 x.f.h.seq, .int .i64 x.f.h.to, .int .i64 x.f.h.till, .int .i64 x.f.h.bytes, .int .i64 x.f.h.block, .int .i64 x.f.s.id, .slice A6 n6 c6, .int .i64 x.f.n, .int .i64 x.f.try_] 73 (0, 0)) := heap_new rfl
        have hA : Fr W7 (W7.alloc (.cells #[.int .i64 x.frm, .int .i64 x.to, .int .i64 x.f.kind, .int .i64 x.f.h.frm, .int .i64 x.f.h.seq, .int .i64 x.f.h.to, .int .i64 x.f.h.till, .int .i64 x.f.h.bytes, .int .i64 x.f.h.block, .int .i64 x.f.s.id, .slice A6 n6 c6, .int .i64 x.f.n, .int .i64 x.f.try_] 73)) := frAlloc _ _
        refine (waySame_eq _ (some ⟨W7.heap.size, 0, none⟩) (some (ad.add (kk * 13))) 1 1 1 (c1 - kk) [x] (Sl.mail (m := x) (A := A6) (n := n6) (c := c6) hb (LTnew W7 _) hwx.out (HY6.out.go (hf.trans hA))) (HSUB.out.go sMl ((HF6.out.trans hf).trans hA)) hn1).mono ?_
        rintro e w8 ⟨rfl, h8⟩
        exact ⟨rfl, hA.trans h8⟩
      have hwt : ((kk : Int) + 1).toNat = kk + 1 := by omega
      have hwk : IntKind.i64.wrap ((kk : Int) + 1) = (kk : Int) + 1 := IntWalk.i64_in _ (by omega)
      clear hE1
      go_wp2_with fail
      go_region_with (first
        | (go_at_call 51; (with_reducible refine (waySame_eq _ _ _ _ _ _ _ a2 (HS6.out.go sMl (by (repeat' (first | exact Below.refl _ _ | refine below_drewN ?_ _ | refine Below.drew ?_ | refine frA ?_ _)))) (HS5.out.go sMl (by (repeat' (first | exact Below.refl _ _ | refine below_drewN ?_ _ | refine Below.drew ?_ | refine frA ?_ _ | refine Fr.trans ?_ HF6.out)))) hn1m.out).mono ?_); rintro e w7 ⟨rfl, hf7⟩; have hb12 : w7.heap[w6.heap.size]? = some (.cells #[.int .i64 x.frm, .int .i64 x.to, .int .i64 x.f.kind, .int .i64 x.f.h.frm, .int .i64 x.f.h.seq, .int .i64 x.f.h.to, .int .i64 x.f.h.till, .int .i64 x.f.h.bytes, .int .i64 x.f.h.block, .int .i64 x.f.s.id, .slice A6 n6 c6, .int .i64 x.f.n, .int .i64 x.f.try_] 73 (0, 0)) := blk_go (by (repeat' (first | (refine heap_new ?_; (first | (simp; done) | rfl); done) | refine heap_dn ?_ | refine heap_d ?_ | refine heap_old ?_))) hf7; have hl12 := blk_lt5 hb12; (obtain ⟨hr0, hr1, hr2, hr3, hr4, hr5, hr6, hr7, hr8, hr9, hr10, hr11, hr12⟩ := box13_ hb12); have HF7 : Hid (Fr w6 w7) := Fr.trans (by (repeat' (first | exact Below.refl _ _ | refine below_drewN ?_ _ | refine Below.drew ?_ | refine frA ?_ _))) hf7; clear hf7 hb12)
        | (go_at_call 51; (refine (KEY.out _ HF7.out).mono ?_); rintro e w8 ⟨rfl, hf8⟩; have HF8 := Lib.hid hf8; clear hf8))
      all_goals
        go_wp2_with fail
        go_ret
        exact ⟨by first | rfl | simp, by (repeat' (first | exact Below.refl _ _ | refine below_drewN ?_ _ | refine Below.drew ?_ | refine frA ?_ _ | refine Fr.trans ?_ HF8.out | refine Fr.trans ?_ HF7.out | refine Fr.trans ?_ HF6.out | refine Fr.trans ?_ HW5.out))⟩
  · have e1 : (q != 0) = true := by simpa using h0
    have hHm := Lib.hid hm
    (have H := Lib.hid h; clear h; have Hy := Lib.hid hy; clear hy; have Hlen := Lib.hid hlen; clear hlen; have Hm := Lib.hid hm; clear hm; have Ha := Lib.hid ha; clear ha; have Hq := Lib.hid hq; clear hq; have H0 := Lib.hid h0; clear h0)
    go_enter Try.func12, Try.ntmps12
    go_wp2_with fail
    refine (SD.out _ A n c (H.out.go sMl (by (repeat' (first | exact Below.refl _ _ | refine below_drewN ?_ _ | refine Below.drew ?_ | refine frA ?_ _)))) hHm.out A' n' c' hw (Hy.out.go (by (repeat' (first | exact Below.refl _ _ | refine below_drewN ?_ _ | refine Below.drew ?_ | refine frA ?_ _))))).mono ?_
    rintro e w1 ⟨v1, rfl, ho1, hf1⟩
    have HF1 : Hid (Fr w w1) := Fr.trans (frAlloc _ _) hf1
    clear hf1 ho1
    go_wp2_with fail
    refine (posted_any _).mono ?_
    rintro e w2 ⟨rfl, hf2⟩
    (have Hf2 := Lib.hid hf2; clear hf2)
    go_wp2_with fail
    refine (posted_any _).mono ?_
    rintro e w3 ⟨rfl, hf3⟩
    (have Hf3 := Lib.hid hf3; clear hf3)
    go_wp2_with fail
    go_ret
    exact ⟨rfl, by (repeat' (first | exact Below.refl _ _ | refine below_drewN ?_ _ | refine Below.drew ?_ | refine frA ?_ _ | refine Fr.trans ?_ Hf3.out | refine Fr.trans ?_ Hf2.out | refine Fr.trans ?_ HF1.out))⟩
end Go.Proofs.Ytahkpbenebmmdaa
