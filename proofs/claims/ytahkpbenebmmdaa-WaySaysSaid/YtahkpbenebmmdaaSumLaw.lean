/- The walks of SumSays. No condition. -/
import Derived.Test.YtahkpbenebmmdaaRSum
import Derived.Test.YtahkpbenebmmdaaEq
set_option linter.unusedSimpArgs false
set_option linter.unusedVariables false
namespace Go.Proofs.Ytahkpbenebmmdaa
open Go.RowKit

/-- Blocks that were laid one by one. -/
def LitRows (W : World) (S : Nat → Prop) : List Value → List (List UInt8) → Prop
  | [], [] => True
  | v :: vs, l :: ls => (∃ g c t fr, v = .slice (some ⟨g, 0, none⟩) l.length c ∧ (l.length ≤ lim ∧ l.length ≤ c ∧ c ≤ maxLen) ∧ S g ∧ W.heap[g]? = some (.cells (ca bV l) t fr)) ∧ LitRows W S vs ls
  | _, _ => False
theorem LitRows.nil {W : World} {S : Nat → Prop} : LitRows W S [] [] := trivial
theorem LitRows.cons {W : World} {S : Nat → Prop} {g n c : Nat} {t : TypeId} {fr : Nat × Nat} {vs : List Value} {l : List UInt8} {ls : List (List UInt8)} (hb : W.heap[g]? = some (.cells (ca bV l) t fr)) (hn : l.length = n) (hl : n ≤ lim ∧ n ≤ c ∧ c ≤ maxLen) (hS : S g) (h : LitRows W S vs ls) : LitRows W S (.slice (some ⟨g, 0, none⟩) n c :: vs) (l :: ls) :=
  ⟨⟨g, c, t, fr, by rw [hn], by rw [hn]; exact hl, hS, hb⟩, h⟩
theorem LitRows.at_ {W : World} {S : Nat → Prop} : ∀ {vs : List Value} {ls : List (List UInt8)}, LitRows W S vs ls → ∀ i l, ls[i]? = some l → eBlock W S (fun j => vs[i + j]?) l
  | [], [], _, i, l, h => by simp at h
  | v :: vs, l' :: ls, ⟨⟨g, c, t, fr, hv, hl, hS, hb⟩, hr⟩, 0, l, h => by
    obtain rfl : l' = l := by simpa using h
    exact ⟨some ⟨g, 0, none⟩, l'.length, c, by simp [hv], ⟨by omega, hl.2.1, hl.2.2⟩, Sl.litBytes hb hS rfl rfl⟩
  | v :: vs, l' :: ls, ⟨_, hr⟩, i + 1, l, h => by
    have := LitRows.at_ hr i l (by simpa using h)
    have e : (fun j => (v :: vs)[i + 1 + j]?) = fun j => vs[i + j]? := funext fun j => by rw [show i + 1 + j = (i + j) + 1 from by omega]; simp
    rw [e]; exact this
theorem Sl.litBlocks {w : World} {b : Nat} {vs : List Value} {t : TypeId} {fr : Nat × Nat} {S : Nat → Prop} {n : Nat} {ls : List (List UInt8)}
    (hb : w.heap[b]? = some (.cells vs.toArray t fr)) (hS : S b) (hn : ls.length = n) (h : LitRows w S vs ls) : Sl 1 eBlock w S (some ⟨b, 0, none⟩) n ls :=
  .lit hb hS hn fun i x hx => by simpa using h.at_ i x hx

theorem blocks_sl (w : World) (A : Option Addr) (n c : Nat) (ls : List (List UInt8)) (h : Sl 1 eBlock w (LT w.heap.size) A n ls) (hm : n * 24 ≤ lim) :
    Calls Try.prog 15 #[.slice A n c] w fun e w' => ∃ A' c', e = .returned (.slice A' n c') ∧ Sl 1 eBlock w' (LT w'.heap.size) A' n ls ∧ Fr w w' := by
  refine (blocks_any w A n c ls h hm).mono ?_
  rintro e w' ⟨v, rfl, ho, hf⟩
  obtain ⟨A', c', rfl, _, _, hs⟩ := ho.sl wBlock (by decide)
  rw [h.1] at hs ⊢
  exact ⟨A', c', rfl, hs, hf⟩

theorem same_any (w : World) (S T : Nat → Prop) (A A' : Option Addr) (n c n' c' : Nat) (xs ys : List UInt8) (h : Sl 1 eByte w S A n xs) (h' : Sl 1 eByte w T A' n' ys) (hm : n ≤ maxLen) :
    Calls Try.prog 19 #[.slice A n c, .slice A' n' c'] w fun e w' => e = .returned (.bool (decide (xs = ys))) ∧ ∃ m, w' = w.drewN m := by
  have H := Lib.hid h
  have H' := Lib.hid h'
  clear h h'
  go_enter Try.func19, Try.ntmps19
  go_wp2_with fail
  refine (equalBlock_any _ _ _ _ _ _ _ _ _ _ _ H.out H'.out hm).mono ?_
  rintro e w' ⟨rfl, m, rfl⟩
  go_wp2_with fail
  go_ret
  exact ⟨rfl, m, rfl⟩

set_option maxHeartbeats 1000000 in
theorem added_any (w : World) : Calls Try.prog 17 #[] w fun e w' => e = .returned (.bool true) ∧ Fr w w' := by
  have E : Hid (sumAdd [[1, 2], [3, 2], [4, 9]] = ([6, 9], 0)) := by unfold Hid; decide
  go_enter Try.func17, Try.ntmps17
  go_wp2_with fail
  refine (sumAdd_any _ _ 3 _ [[1, 2], [3, 2], [4, 9]] ?_ (by decide)).mono ?_
  · apply Sl.litBlocks (hn := rfl)
    · (repeat' (first | (refine heap_new ?_; (first | (simp; done) | rfl); done) | refine heap_dn ?_ | refine heap_d ?_ | refine heap_old ?_))
    · simp [LT]
    · repeat' apply LitRows.cons
      all_goals first | exact LitRows.nil | decide | (simp [LT]; done) | rfl | (simp [LT]; done) | (simp [LT]; omega) | (repeat' (first | (refine heap_new ?_; (first | (simp; done) | rfl); done) | refine heap_dn ?_ | refine heap_d ?_ | refine heap_old ?_))
  · rw [E.out]
    rintro e w1 ⟨A, n, c, rfl, hn, _, hs, hf⟩
    have HS := Lib.hid hs
    have HF := Lib.hid hf
    clear hs hf
    go_wp2_with fail
    refine (equalBlock_any _ _ Any _ _ _ _ _ _ [6, 9] [6, 9] (HS.out.go sByte (frAlloc _ _)) ?_ (by unfold maxLen; omega)).mono ?_
    · apply Sl.litBytes (hS := trivial) (hn := rfl)
      · (repeat' (first | (refine heap_new ?_; (first | (simp; done) | rfl); done) | refine heap_dn ?_ | refine heap_d ?_ | refine heap_old ?_))
      · rfl
    · rintro e w2 ⟨rfl, m, rfl⟩
      go_wp2_with fail
      refine (same_any _ _ _ _ _ _ _ _ _ [6, 9] [6, 9] (HS.out.go sByte ((frAlloc _ _).trans (frDrewN _ _))) (HS.out.go sByte ((frAlloc _ _).trans (frDrewN _ _))) (by unfold maxLen; omega)).mono ?_
      rintro e w3 ⟨rfl, m', rfl⟩
      go_wp2_with fail
      go_ret
      exact ⟨rfl, by (repeat' (first | exact Below.refl _ _ | refine below_drewN ?_ _ | refine Below.drew ?_ | refine frA ?_ _ | refine Fr.trans ?_ HF.out))⟩

theorem sumAdd_err {ls : List (List UInt8)} (h : sumCheck ls ≠ 0) : sumAdd ls = ([], sumCheck ls) := by rw [sumAdd, if_pos h]
theorem sumAdd_none {ls : List (List UInt8)} (h : ls.length = 0) : sumAdd ls = ([], 8) := by rw [List.eq_nil_of_length_eq_zero h]; rfl
theorem sumAdd_some {ls : List (List UInt8)} (h : sumCheck ls = 0) (hn : 0 < ls.length) : sumAdd ls = (xorAll (ls.headD []).length ls, 0) := by rw [sumAdd, if_neg (by simp [h]), if_neg (by omega)]

set_option maxHeartbeats 1000000 in
theorem sumSays_any (w : World) (A : Option Addr) (n c : Nat) (ls : List (List UInt8)) (h : Sl 1 eBlock w (LT w.heap.size) A n ls) (hm : n * 24 ≤ lim)
    (A1 : Option Addr) (n1 c1 : Nat) (xs : List UInt8) (h1 : Sl 1 eByte w (LT w.heap.size) A1 n1 xs) (hm1 : n1 * 1 ≤ lim)
    (A2 : Option Addr) (n2 c2 : Nat) (ys : List UInt8) (h2 : Sl 1 eByte w (LT w.heap.size) A2 n2 ys) (hm2 : n2 * 1 ≤ lim) :
    Calls Try.prog 4 #[.slice A n c, .slice A1 n1 c1, .slice A2 n2 c2] w fun e w' => e = .returned (.bool true) ∧ Fr w w' := by
  have hm' : n ≤ lim := by omega
  have hx1 : n1 ≤ maxLen := by unfold maxLen; unfold lim at hm1; omega
  have hn := h.1
  by_cases hc : sumCheck ls = 0
  · by_cases hz : ls.length = 0
    · have E := Lib.hid (sumAdd_none hz)
      have hck : (sumCheck ls != 0) = false := by rw [hc]; rfl
      have hck2 : (sumCheck ls == 0) = true := by rw [hc]; rfl
      obtain rfl : n = 0 := by omega
      have heq : (sumCheck ls != sumCheck ls) = false := by simp
      (have H := Lib.hid h; clear h; have H1 := Lib.hid h1; clear h1; have H2 := Lib.hid h2; clear h2; have Hn := Lib.hid hn; clear hn; have Hc := Lib.hid hc; clear hc; have Hz := Lib.hid hz; clear hz)
      go_enter Try.func4, Try.ntmps4
      go_wp2_with fail
      refine (blocks_sl _ _ _ _ _ H.out hm).mono ?_
      rintro e w1 ⟨B1, d1, rfl, hs1, hf1⟩
      (have Hs1 := Lib.hid hs1; clear hs1; have Hf1 := Lib.hid hf1; clear hf1)
      go_wp2_with fail
      refine (sumAdd_any _ _ _ _ _ Hs1.out hm').mono ?_
      rw [E.out]
      rintro e w2 ⟨B2, m2, d2, rfl, _, _, hs2, hf2⟩
      obtain rfl : m2 = 0 := hs2.1.symm
      (have Hs2 := Lib.hid hs2; clear hs2; have Hf2 := Lib.hid hf2; clear hf2)
      go_wp2_with fail
      refine (blocks_sl _ _ _ _ _ (H.out.go wBlock (by (repeat' (first | exact Below.refl _ _ | refine below_drewN ?_ _ | refine Below.drew ?_ | refine frA ?_ _ | refine Fr.trans ?_ Hf12.out | refine Fr.trans ?_ Hf11.out | refine Fr.trans ?_ Hf10.out | refine Fr.trans ?_ Hf9.out | refine Fr.trans ?_ Hf8.out | refine Fr.trans ?_ Hf7.out | refine Fr.trans ?_ Hf6.out | refine Fr.trans ?_ Hf5.out | refine Fr.trans ?_ Hf4.out | refine Fr.trans ?_ Hf3.out | refine Fr.trans ?_ Hf2.out | refine Fr.trans ?_ Hf1.out)))) hm).mono ?_
      rintro e w3 ⟨B3, d3, rfl, hs3, hf3⟩
      (have Hs3 := Lib.hid hs3; clear hs3; have Hf3 := Lib.hid hf3; clear hf3)
      go_wp2_with fail
      refine (refCheckSum_any _ _ _ _ _ _ Hs3.out hm').mono ?_
      rintro e w4 ⟨rfl, m, rfl⟩
      go_wp2_with fail
      refine (added_any _).mono ?_
      rintro e w5 ⟨rfl, hf5⟩
      (have Hf5 := Lib.hid hf5; clear hf5)
      go_wp2_with fail
      refine (blocks_sl _ _ _ _ _ (H.out.go wBlock (by (repeat' (first | exact Below.refl _ _ | refine below_drewN ?_ _ | refine Below.drew ?_ | refine frA ?_ _ | refine Fr.trans ?_ Hf12.out | refine Fr.trans ?_ Hf11.out | refine Fr.trans ?_ Hf10.out | refine Fr.trans ?_ Hf9.out | refine Fr.trans ?_ Hf8.out | refine Fr.trans ?_ Hf7.out | refine Fr.trans ?_ Hf6.out | refine Fr.trans ?_ Hf5.out | refine Fr.trans ?_ Hf4.out | refine Fr.trans ?_ Hf3.out | refine Fr.trans ?_ Hf2.out | refine Fr.trans ?_ Hf1.out)))) hm).mono ?_
      rintro e w6 ⟨B6, d6, rfl, hs6, hf6⟩
      (have Hs6 := Lib.hid hs6; clear hs6; have Hf6 := Lib.hid hf6; clear hf6)
      go_wp2_with fail
      refine (sumCheck_any _ _ _ _ _ _ Hs6.out hm').mono ?_
      rintro e w7 ⟨rfl, rfl⟩
      go_wp2_with fail
      refine (same_any _ _ _ _ _ _ _ _ _ _ _ (H1.out.go sByte (by (repeat' (first | exact Below.refl _ _ | refine below_drewN ?_ _ | refine Below.drew ?_ | refine frA ?_ _ | refine Fr.trans ?_ Hf12.out | refine Fr.trans ?_ Hf11.out | refine Fr.trans ?_ Hf10.out | refine Fr.trans ?_ Hf9.out | refine Fr.trans ?_ Hf8.out | refine Fr.trans ?_ Hf7.out | refine Fr.trans ?_ Hf6.out | refine Fr.trans ?_ Hf5.out | refine Fr.trans ?_ Hf4.out | refine Fr.trans ?_ Hf3.out | refine Fr.trans ?_ Hf2.out | refine Fr.trans ?_ Hf1.out)))) (H2.out.go sByte (by (repeat' (first | exact Below.refl _ _ | refine below_drewN ?_ _ | refine Below.drew ?_ | refine frA ?_ _ | refine Fr.trans ?_ Hf12.out | refine Fr.trans ?_ Hf11.out | refine Fr.trans ?_ Hf10.out | refine Fr.trans ?_ Hf9.out | refine Fr.trans ?_ Hf8.out | refine Fr.trans ?_ Hf7.out | refine Fr.trans ?_ Hf6.out | refine Fr.trans ?_ Hf5.out | refine Fr.trans ?_ Hf4.out | refine Fr.trans ?_ Hf3.out | refine Fr.trans ?_ Hf2.out | refine Fr.trans ?_ Hf1.out)))) hx1).mono ?_
      rintro e w8 ⟨rfl, m8, rfl⟩
      go_wp2_with fail
      refine (equalBytes_any _ _ _ _ _ _ _ _ _ _ _ (H1.out.go sByte (by (repeat' (first | exact Below.refl _ _ | refine below_drewN ?_ _ | refine Below.drew ?_ | refine frA ?_ _ | refine Fr.trans ?_ Hf12.out | refine Fr.trans ?_ Hf11.out | refine Fr.trans ?_ Hf10.out | refine Fr.trans ?_ Hf9.out | refine Fr.trans ?_ Hf8.out | refine Fr.trans ?_ Hf7.out | refine Fr.trans ?_ Hf6.out | refine Fr.trans ?_ Hf5.out | refine Fr.trans ?_ Hf4.out | refine Fr.trans ?_ Hf3.out | refine Fr.trans ?_ Hf2.out | refine Fr.trans ?_ Hf1.out)))) (H2.out.go sByte (by (repeat' (first | exact Below.refl _ _ | refine below_drewN ?_ _ | refine Below.drew ?_ | refine frA ?_ _ | refine Fr.trans ?_ Hf12.out | refine Fr.trans ?_ Hf11.out | refine Fr.trans ?_ Hf10.out | refine Fr.trans ?_ Hf9.out | refine Fr.trans ?_ Hf8.out | refine Fr.trans ?_ Hf7.out | refine Fr.trans ?_ Hf6.out | refine Fr.trans ?_ Hf5.out | refine Fr.trans ?_ Hf4.out | refine Fr.trans ?_ Hf3.out | refine Fr.trans ?_ Hf2.out | refine Fr.trans ?_ Hf1.out)))) hx1).mono ?_
      rintro e w9 ⟨rfl, m9, rfl⟩
      go_wp2_with fail
      go_ret
      exact ⟨by simp, (by (repeat' (first | exact Below.refl _ _ | refine below_drewN ?_ _ | refine Below.drew ?_ | refine frA ?_ _ | refine Fr.trans ?_ Hf12.out | refine Fr.trans ?_ Hf11.out | refine Fr.trans ?_ Hf10.out | refine Fr.trans ?_ Hf9.out | refine Fr.trans ?_ Hf8.out | refine Fr.trans ?_ Hf7.out | refine Fr.trans ?_ Hf6.out | refine Fr.trans ?_ Hf5.out | refine Fr.trans ?_ Hf4.out | refine Fr.trans ?_ Hf3.out | refine Fr.trans ?_ Hf2.out | refine Fr.trans ?_ Hf1.out)))⟩
    · obtain ⟨X, hX⟩ : ∃ X, X = xorAll (ls.headD []).length ls := ⟨_, rfl⟩
      have E : Hid (sumAdd ls = (X, 0)) := by rw [hX]; exact sumAdd_some hc (by omega)
      (have HX := Lib.hid hX; clear hX)
      have hck : (sumCheck ls != 0) = false := by rw [hc]; rfl
      have hck2 : (sumCheck ls == 0) = true := by rw [hc]; rfl
      have hzz : ((n : Int) == 0) = false := by rw [beq_eq_false_iff_ne]; omega
      have hz' : 0 < n := by omega
      have heq : (sumCheck ls != sumCheck ls) = false := by simp
      (have H := Lib.hid h; clear h; have H1 := Lib.hid h1; clear h1; have H2 := Lib.hid h2; clear h2; have Hn := Lib.hid hn; clear hn; have Hc := Lib.hid hc; clear hc; have Hz := Lib.hid hz; clear hz)
      go_enter Try.func4, Try.ntmps4
      go_wp2_with fail
      refine (blocks_sl _ _ _ _ _ H.out hm).mono ?_
      rintro e w1 ⟨B1, d1, rfl, hs1, hf1⟩
      (have Hs1 := Lib.hid hs1; clear hs1; have Hf1 := Lib.hid hf1; clear hf1)
      go_wp2_with fail
      refine (sumAdd_any _ _ _ _ _ Hs1.out hm').mono ?_
      rw [E.out]
      rintro e w2 ⟨B2, m2, d2, rfl, _, _, hs2, hf2⟩
      have hs2' := hs2.1
      (have Hs2 := Lib.hid hs2; clear hs2; have Hf2 := Lib.hid hf2; clear hf2)
      go_wp2_with fail
      refine (blocks_sl _ _ _ _ _ (H.out.go wBlock (by (repeat' (first | exact Below.refl _ _ | refine below_drewN ?_ _ | refine Below.drew ?_ | refine frA ?_ _ | refine Fr.trans ?_ Hf12.out | refine Fr.trans ?_ Hf11.out | refine Fr.trans ?_ Hf10.out | refine Fr.trans ?_ Hf9.out | refine Fr.trans ?_ Hf8.out | refine Fr.trans ?_ Hf7.out | refine Fr.trans ?_ Hf6.out | refine Fr.trans ?_ Hf5.out | refine Fr.trans ?_ Hf4.out | refine Fr.trans ?_ Hf3.out | refine Fr.trans ?_ Hf2.out | refine Fr.trans ?_ Hf1.out)))) hm).mono ?_
      rintro e w3 ⟨B3, d3, rfl, hs3, hf3⟩
      (have Hs3 := Lib.hid hs3; clear hs3; have Hf3 := Lib.hid hf3; clear hf3)
      go_wp2_with fail
      refine (refCheckSum_any _ _ _ _ _ _ Hs3.out hm').mono ?_
      rintro e w4 ⟨rfl, m, rfl⟩
      go_wp2_with fail
      refine (added_any _).mono ?_
      rintro e w5 ⟨rfl, hf5⟩
      (have Hf5 := Lib.hid hf5; clear hf5)
      go_wp2_with fail
      refine (blocks_sl _ _ _ _ _ (H.out.go wBlock (by (repeat' (first | exact Below.refl _ _ | refine below_drewN ?_ _ | refine Below.drew ?_ | refine frA ?_ _ | refine Fr.trans ?_ Hf12.out | refine Fr.trans ?_ Hf11.out | refine Fr.trans ?_ Hf10.out | refine Fr.trans ?_ Hf9.out | refine Fr.trans ?_ Hf8.out | refine Fr.trans ?_ Hf7.out | refine Fr.trans ?_ Hf6.out | refine Fr.trans ?_ Hf5.out | refine Fr.trans ?_ Hf4.out | refine Fr.trans ?_ Hf3.out | refine Fr.trans ?_ Hf2.out | refine Fr.trans ?_ Hf1.out)))) hm).mono ?_
      rintro e w6 ⟨B6, d6, rfl, hs6, hf6⟩
      (have Hs6 := Lib.hid hs6; clear hs6; have Hf6 := Lib.hid hf6; clear hf6)
      go_wp2_with fail
      refine (sumCheck_any _ _ _ _ _ _ Hs6.out hm').mono ?_
      rintro e w7 ⟨rfl, rfl⟩
      go_wp2_with fail
      refine (same_any _ _ _ _ _ _ _ _ _ _ _ (H1.out.go sByte (by (repeat' (first | exact Below.refl _ _ | refine below_drewN ?_ _ | refine Below.drew ?_ | refine frA ?_ _ | refine Fr.trans ?_ Hf12.out | refine Fr.trans ?_ Hf11.out | refine Fr.trans ?_ Hf10.out | refine Fr.trans ?_ Hf9.out | refine Fr.trans ?_ Hf8.out | refine Fr.trans ?_ Hf7.out | refine Fr.trans ?_ Hf6.out | refine Fr.trans ?_ Hf5.out | refine Fr.trans ?_ Hf4.out | refine Fr.trans ?_ Hf3.out | refine Fr.trans ?_ Hf2.out | refine Fr.trans ?_ Hf1.out)))) (H2.out.go sByte (by (repeat' (first | exact Below.refl _ _ | refine below_drewN ?_ _ | refine Below.drew ?_ | refine frA ?_ _ | refine Fr.trans ?_ Hf12.out | refine Fr.trans ?_ Hf11.out | refine Fr.trans ?_ Hf10.out | refine Fr.trans ?_ Hf9.out | refine Fr.trans ?_ Hf8.out | refine Fr.trans ?_ Hf7.out | refine Fr.trans ?_ Hf6.out | refine Fr.trans ?_ Hf5.out | refine Fr.trans ?_ Hf4.out | refine Fr.trans ?_ Hf3.out | refine Fr.trans ?_ Hf2.out | refine Fr.trans ?_ Hf1.out)))) hx1).mono ?_
      rintro e w8 ⟨rfl, m8, rfl⟩
      go_wp2_with fail
      refine (equalBytes_any _ _ _ _ _ _ _ _ _ _ _ (H1.out.go sByte (by (repeat' (first | exact Below.refl _ _ | refine below_drewN ?_ _ | refine Below.drew ?_ | refine frA ?_ _ | refine Fr.trans ?_ Hf12.out | refine Fr.trans ?_ Hf11.out | refine Fr.trans ?_ Hf10.out | refine Fr.trans ?_ Hf9.out | refine Fr.trans ?_ Hf8.out | refine Fr.trans ?_ Hf7.out | refine Fr.trans ?_ Hf6.out | refine Fr.trans ?_ Hf5.out | refine Fr.trans ?_ Hf4.out | refine Fr.trans ?_ Hf3.out | refine Fr.trans ?_ Hf2.out | refine Fr.trans ?_ Hf1.out)))) (H2.out.go sByte (by (repeat' (first | exact Below.refl _ _ | refine below_drewN ?_ _ | refine Below.drew ?_ | refine frA ?_ _ | refine Fr.trans ?_ Hf12.out | refine Fr.trans ?_ Hf11.out | refine Fr.trans ?_ Hf10.out | refine Fr.trans ?_ Hf9.out | refine Fr.trans ?_ Hf8.out | refine Fr.trans ?_ Hf7.out | refine Fr.trans ?_ Hf6.out | refine Fr.trans ?_ Hf5.out | refine Fr.trans ?_ Hf4.out | refine Fr.trans ?_ Hf3.out | refine Fr.trans ?_ Hf2.out | refine Fr.trans ?_ Hf1.out)))) hx1).mono ?_
      rintro e w9 ⟨rfl, m9, rfl⟩
      go_wp2_with fail
      refine (blocks_sl _ _ _ _ _ (H.out.go wBlock (by (repeat' (first | exact Below.refl _ _ | refine below_drewN ?_ _ | refine Below.drew ?_ | refine frA ?_ _ | refine Fr.trans ?_ Hf12.out | refine Fr.trans ?_ Hf11.out | refine Fr.trans ?_ Hf10.out | refine Fr.trans ?_ Hf9.out | refine Fr.trans ?_ Hf8.out | refine Fr.trans ?_ Hf7.out | refine Fr.trans ?_ Hf6.out | refine Fr.trans ?_ Hf5.out | refine Fr.trans ?_ Hf4.out | refine Fr.trans ?_ Hf3.out | refine Fr.trans ?_ Hf2.out | refine Fr.trans ?_ Hf1.out)))) hm).mono ?_
      rintro e w10 ⟨B10, d10, rfl, hs10, hf10⟩
      (have Hs10 := Lib.hid hs10; clear hs10; have Hf10 := Lib.hid hf10; clear hf10)
      go_wp2_with fail
      refine (refSum_any _ _ _ _ _ _ Hs10.out hm' Hc.out hz' rfl).mono ?_
      rw [← HX.out]
      rintro e w11 ⟨v, rfl, ho, hf11⟩
      obtain ⟨B11, d11, rfl, _, _, hs11⟩ := ho.sl sByte (by decide)
      (have Hs11 := Lib.hid hs11; clear hs11; have Hf11 := Lib.hid hf11; clear hf11; have Hs2' := Lib.hid hs2'; clear hs2'; have Ho := Lib.hid ho; clear ho)
      go_wp2_with fail
      refine (equalBlock_any _ _ _ _ _ _ _ _ _ _ _ (Hs2.out.go sByte (by (repeat' (first | exact Below.refl _ _ | refine below_drewN ?_ _ | refine Below.drew ?_ | refine frA ?_ _ | refine Fr.trans ?_ Hf12.out | refine Fr.trans ?_ Hf11.out | refine Fr.trans ?_ Hf10.out | refine Fr.trans ?_ Hf9.out | refine Fr.trans ?_ Hf8.out | refine Fr.trans ?_ Hf7.out | refine Fr.trans ?_ Hf6.out | refine Fr.trans ?_ Hf5.out | refine Fr.trans ?_ Hf4.out | refine Fr.trans ?_ Hf3.out | refine Fr.trans ?_ Hf2.out | refine Fr.trans ?_ Hf1.out)))) Hs11.out (by unfold maxLen; omega)).mono ?_
      rintro e w12 ⟨rfl, m12, rfl⟩
      go_wp2_with fail
      go_ret
      exact ⟨by simp, (by (repeat' (first | exact Below.refl _ _ | refine below_drewN ?_ _ | refine Below.drew ?_ | refine frA ?_ _ | refine Fr.trans ?_ Hf12.out | refine Fr.trans ?_ Hf11.out | refine Fr.trans ?_ Hf10.out | refine Fr.trans ?_ Hf9.out | refine Fr.trans ?_ Hf8.out | refine Fr.trans ?_ Hf7.out | refine Fr.trans ?_ Hf6.out | refine Fr.trans ?_ Hf5.out | refine Fr.trans ?_ Hf4.out | refine Fr.trans ?_ Hf3.out | refine Fr.trans ?_ Hf2.out | refine Fr.trans ?_ Hf1.out)))⟩
  · have E := Lib.hid (sumAdd_err hc)
    have hck : (sumCheck ls != 0) = true := by rw [bne_iff_ne]; exact hc
    have hck2 : (sumCheck ls == 0) = false := by rw [beq_eq_false_iff_ne]; exact hc
    have heq : (sumCheck ls != sumCheck ls) = false := by simp
    (have H := Lib.hid h; clear h; have H1 := Lib.hid h1; clear h1; have H2 := Lib.hid h2; clear h2; have Hn := Lib.hid hn; clear hn; have Hc := Lib.hid hc; clear hc)
    go_enter Try.func4, Try.ntmps4
    go_wp2_with fail
    refine (blocks_sl _ _ _ _ _ H.out hm).mono ?_
    rintro e w1 ⟨B1, d1, rfl, hs1, hf1⟩
    (have Hs1 := Lib.hid hs1; clear hs1; have Hf1 := Lib.hid hf1; clear hf1)
    go_wp2_with fail
    refine (sumAdd_any _ _ _ _ _ Hs1.out hm').mono ?_
    rw [E.out]
    rintro e w2 ⟨B2, m2, d2, rfl, _, _, hs2, hf2⟩
    obtain rfl : m2 = 0 := hs2.1.symm
    (have Hs2 := Lib.hid hs2; clear hs2; have Hf2 := Lib.hid hf2; clear hf2)
    go_wp2_with fail
    refine (blocks_sl _ _ _ _ _ (H.out.go wBlock (by (repeat' (first | exact Below.refl _ _ | refine below_drewN ?_ _ | refine Below.drew ?_ | refine frA ?_ _ | refine Fr.trans ?_ Hf12.out | refine Fr.trans ?_ Hf11.out | refine Fr.trans ?_ Hf10.out | refine Fr.trans ?_ Hf9.out | refine Fr.trans ?_ Hf8.out | refine Fr.trans ?_ Hf7.out | refine Fr.trans ?_ Hf6.out | refine Fr.trans ?_ Hf5.out | refine Fr.trans ?_ Hf4.out | refine Fr.trans ?_ Hf3.out | refine Fr.trans ?_ Hf2.out | refine Fr.trans ?_ Hf1.out)))) hm).mono ?_
    rintro e w3 ⟨B3, d3, rfl, hs3, hf3⟩
    (have Hs3 := Lib.hid hs3; clear hs3; have Hf3 := Lib.hid hf3; clear hf3)
    go_wp2_with fail
    refine (refCheckSum_any _ _ _ _ _ _ Hs3.out hm').mono ?_
    rintro e w4 ⟨rfl, m, rfl⟩
    go_wp2_with fail
    refine (added_any _).mono ?_
    rintro e w5 ⟨rfl, hf5⟩
    (have Hf5 := Lib.hid hf5; clear hf5)
    go_wp2_with fail
    refine (blocks_sl _ _ _ _ _ (H.out.go wBlock (by (repeat' (first | exact Below.refl _ _ | refine below_drewN ?_ _ | refine Below.drew ?_ | refine frA ?_ _ | refine Fr.trans ?_ Hf12.out | refine Fr.trans ?_ Hf11.out | refine Fr.trans ?_ Hf10.out | refine Fr.trans ?_ Hf9.out | refine Fr.trans ?_ Hf8.out | refine Fr.trans ?_ Hf7.out | refine Fr.trans ?_ Hf6.out | refine Fr.trans ?_ Hf5.out | refine Fr.trans ?_ Hf4.out | refine Fr.trans ?_ Hf3.out | refine Fr.trans ?_ Hf2.out | refine Fr.trans ?_ Hf1.out)))) hm).mono ?_
    rintro e w6 ⟨B6, d6, rfl, hs6, hf6⟩
    (have Hs6 := Lib.hid hs6; clear hs6; have Hf6 := Lib.hid hf6; clear hf6)
    go_wp2_with fail
    refine (sumCheck_any _ _ _ _ _ _ Hs6.out hm').mono ?_
    rintro e w7 ⟨rfl, rfl⟩
    go_wp2_with fail
    refine (same_any _ _ _ _ _ _ _ _ _ _ _ (H1.out.go sByte (by (repeat' (first | exact Below.refl _ _ | refine below_drewN ?_ _ | refine Below.drew ?_ | refine frA ?_ _ | refine Fr.trans ?_ Hf12.out | refine Fr.trans ?_ Hf11.out | refine Fr.trans ?_ Hf10.out | refine Fr.trans ?_ Hf9.out | refine Fr.trans ?_ Hf8.out | refine Fr.trans ?_ Hf7.out | refine Fr.trans ?_ Hf6.out | refine Fr.trans ?_ Hf5.out | refine Fr.trans ?_ Hf4.out | refine Fr.trans ?_ Hf3.out | refine Fr.trans ?_ Hf2.out | refine Fr.trans ?_ Hf1.out)))) (H2.out.go sByte (by (repeat' (first | exact Below.refl _ _ | refine below_drewN ?_ _ | refine Below.drew ?_ | refine frA ?_ _ | refine Fr.trans ?_ Hf12.out | refine Fr.trans ?_ Hf11.out | refine Fr.trans ?_ Hf10.out | refine Fr.trans ?_ Hf9.out | refine Fr.trans ?_ Hf8.out | refine Fr.trans ?_ Hf7.out | refine Fr.trans ?_ Hf6.out | refine Fr.trans ?_ Hf5.out | refine Fr.trans ?_ Hf4.out | refine Fr.trans ?_ Hf3.out | refine Fr.trans ?_ Hf2.out | refine Fr.trans ?_ Hf1.out)))) hx1).mono ?_
    rintro e w8 ⟨rfl, m8, rfl⟩
    go_wp2_with fail
    refine (equalBytes_any _ _ _ _ _ _ _ _ _ _ _ (H1.out.go sByte (by (repeat' (first | exact Below.refl _ _ | refine below_drewN ?_ _ | refine Below.drew ?_ | refine frA ?_ _ | refine Fr.trans ?_ Hf12.out | refine Fr.trans ?_ Hf11.out | refine Fr.trans ?_ Hf10.out | refine Fr.trans ?_ Hf9.out | refine Fr.trans ?_ Hf8.out | refine Fr.trans ?_ Hf7.out | refine Fr.trans ?_ Hf6.out | refine Fr.trans ?_ Hf5.out | refine Fr.trans ?_ Hf4.out | refine Fr.trans ?_ Hf3.out | refine Fr.trans ?_ Hf2.out | refine Fr.trans ?_ Hf1.out)))) (H2.out.go sByte (by (repeat' (first | exact Below.refl _ _ | refine below_drewN ?_ _ | refine Below.drew ?_ | refine frA ?_ _ | refine Fr.trans ?_ Hf12.out | refine Fr.trans ?_ Hf11.out | refine Fr.trans ?_ Hf10.out | refine Fr.trans ?_ Hf9.out | refine Fr.trans ?_ Hf8.out | refine Fr.trans ?_ Hf7.out | refine Fr.trans ?_ Hf6.out | refine Fr.trans ?_ Hf5.out | refine Fr.trans ?_ Hf4.out | refine Fr.trans ?_ Hf3.out | refine Fr.trans ?_ Hf2.out | refine Fr.trans ?_ Hf1.out)))) hx1).mono ?_
    rintro e w9 ⟨rfl, m9, rfl⟩
    go_wp2_with fail
    go_ret
    exact ⟨by simp, (by (repeat' (first | exact Below.refl _ _ | refine below_drewN ?_ _ | refine Below.drew ?_ | refine frA ?_ _ | refine Fr.trans ?_ Hf12.out | refine Fr.trans ?_ Hf11.out | refine Fr.trans ?_ Hf10.out | refine Fr.trans ?_ Hf9.out | refine Fr.trans ?_ Hf8.out | refine Fr.trans ?_ Hf7.out | refine Fr.trans ?_ Hf6.out | refine Fr.trans ?_ Hf5.out | refine Fr.trans ?_ Hf4.out | refine Fr.trans ?_ Hf3.out | refine Fr.trans ?_ Hf2.out | refine Fr.trans ?_ Hf1.out)))⟩
end Go.Proofs.Ytahkpbenebmmdaa
