/- slices.EqualFunc at rows; solve.Same. No condition. -/
import Derived.Test.YtnfjghldcopaaaaKnown
import Derived.Test.YtnfjghldcopaaaaEq
set_option linter.unusedSimpArgs false
set_option linter.unusedVariables false
namespace Go.Proofs.Ytnfjghldcopaaaa
open Go.RowKit
attribute [local irreducible] wpList

/-- A function value that tells whether two rows are alike. -/
def SaysEqR (P : Program) (f : FuncId) : Prop := ∀ (W : World) (x y : Rw) (A1 A2 B1 B2 : Option Addr) (n1 c1 n2 c2 m1 d1 m2 d2 : Nat), Bol W (LT W.heap.size) A1 n1 c1 x.has → Byt W (LT W.heap.size) A2 n2 c2 x.data → Bol W (LT W.heap.size) B1 m1 d1 y.has → Byt W (LT W.heap.size) B2 m2 d2 y.data →
  Calls P f #[.agg #[.slice A1 n1 c1, .slice A2 n2 c2], .agg #[.slice B1 m1 d1, .slice B2 m2 d2]] W fun e w' => e = .returned (.bool (decide (x = y))) ∧ Fr W w'

set_option maxHeartbeats 1000000 in
theorem sameRow_any : SaysEqR Try.prog 64 := by
  intro w x y A1 A2 B1 B2 n1 c1 n2 c2 m1 d1 m2 d2 hx hxd hy hyd
  have l1 : n1 ≤ maxLen := by have := hx.1; omega
  have l2 : n2 ≤ maxLen := by have := hxd.1; omega
  have E : Hid (decide (x = y) = (decide (x.has = y.has) && decide (x.data = y.data))) := by
    cases x; cases y
    rw [Hid, Bool.eq_iff_iff]; simp
  replace hx := hx.2
  replace hxd := hxd.2
  replace hy := hy.2
  replace hyd := hyd.2
  (have Hx := Lib.hid hx; clear hx; have Hxd := Lib.hid hxd; clear hxd; have Hy := Lib.hid hy; clear hy; have Hyd := Lib.hid hyd; clear hyd)
  by_cases h1 : x.has = y.has
  · have E1 : Hid (decide (x.has = y.has) = true) := decide_eq_true h1
    clear h1
    go_enter Try.func64, Try.ntmps64
    go_wp2_with fail
    (with_reducible refine (equalBools_any _ _ _ _ _ _ _ _ _ x.has y.has (Hx.out.go sBool (by (repeat' (first | exact Below.refl _ _ | refine below_drewN ?_ _ | refine Below.drew ?_ | refine frA ?_ _)))) (Hy.out.go sBool (by (repeat' (first | exact Below.refl _ _ | refine below_drewN ?_ _ | refine Below.drew ?_ | refine frA ?_ _)))) l1).mono ?_)
    rw [E1.out]
    rintro e w1 ⟨rfl, m, rfl⟩
    go_wp2_with fail
    (with_reducible refine (equalBlock_any _ _ _ _ _ _ _ _ _ x.data y.data (Hxd.out.go sByte (by (repeat' (first | exact Below.refl _ _ | refine below_drewN ?_ _ | refine Below.drew ?_ | refine frA ?_ _)))) (Hyd.out.go sByte (by (repeat' (first | exact Below.refl _ _ | refine below_drewN ?_ _ | refine Below.drew ?_ | refine frA ?_ _)))) l2).mono ?_)
    rintro e w1 ⟨rfl, m2, rfl⟩
    go_wp2_with fail
    go_ret
    exact ⟨retB (by rw [E.out, E1.out]; simp), by (repeat' (first | exact Below.refl _ _ | refine below_drewN ?_ _ | refine Below.drew ?_ | refine frA ?_ _))⟩
  · have E1 : Hid (decide (x.has = y.has) = false) := decide_eq_false h1
    clear h1
    go_enter Try.func64, Try.ntmps64
    go_wp2_with fail
    (with_reducible refine (equalBools_any _ _ _ _ _ _ _ _ _ x.has y.has (Hx.out.go sBool (by (repeat' (first | exact Below.refl _ _ | refine below_drewN ?_ _ | refine Below.drew ?_ | refine frA ?_ _)))) (Hy.out.go sBool (by (repeat' (first | exact Below.refl _ _ | refine below_drewN ?_ _ | refine Below.drew ?_ | refine frA ?_ _)))) l1).mono ?_)
    rw [E1.out]
    rintro e w1 ⟨rfl, m, rfl⟩
    go_wp2_with fail
    go_ret
    exact ⟨retB (by rw [E.out, E1.out]; simp), by (repeat' (first | exact Below.refl _ _ | refine below_drewN ?_ _ | refine Below.drew ?_ | refine frA ?_ _))⟩

set_option maxHeartbeats 1000000 in
theorem equalFuncRow_any (w : World) (f : FuncId) (hcf : ∀ (args : Array Value) (W : World), (callFunc f args).run Try.prog W = .ok (.enter f args) W) (hfn : SaysEqR Try.prog f) (A A' : Option Addr) (n c n' c' : Nat) (xs ys : List Rw) (h : Sl 2 eRw w (LT w.heap.size) A n xs) (h' : Sl 2 eRw w (LT w.heap.size) A' n' ys) (hm : n ≤ maxLen) :
    Calls Try.prog 63 #[.slice A n c, .slice A' n' c', .func (.func f) #[] #[]] w fun e w' => e = .returned (.bool (decide (xs = ys))) ∧ Fr w w' := by
  unfold maxLen at hm
  have H := Lib.hid h
  have H' := Lib.hid h'
  unfold SaysEqR at hfn
  have HFN := Lib.hid hfn
  clear h h' hfn
  by_cases hn : n = n'
  · have hne : ((n : Int) != (n' : Int)) = false := by simp [hn]
    have HN : Hid (n = n') := hn
    clear hn
    go_enter Try.func63, Try.ntmps63
    go_wp2_with fail
    go_loopw [17] (fun i wr => ∃ k : Nat, k ≤ n ∧ i = .int .i64 k ∧ Hid (decide (xs = ys) = decide (xs.drop k = ys.drop k)) ∧ Hid (Fr w wr)) (fun i _ => n - (intOf i).toNat)
    case atStart => exact ⟨0, Nat.zero_le _, rfl, rfl, Below.refl _ _⟩
    case round =>
      obtain ⟨k, hk, rfl, HS, HF⟩ := hrel
      by_cases hlt : k < n
      · have hlt' : k < n' := HN.out ▸ hlt
        obtain ⟨ad, rfl, hE⟩ := (H.out.go sRw HF.out).els (by omega)
        obtain ⟨ad', rfl, hE'⟩ := (H'.out.go sRw HF.out).els (by omega)
        obtain ⟨a, ha, hra⟩ := hE.row hlt
        obtain ⟨b, hb, hrb⟩ := hE'.row hlt'
        obtain ⟨A1, n1, c1, A2, n2, c2, ⟨m0, m1⟩, hx1, hx2⟩ := eRw_at hra
        obtain ⟨B1, n3, c3, B2, n4, c4, ⟨m2, m3⟩, hy1, hy2⟩ := eRw_at hrb
        have HS' : Hid (decide (xs = ys) = (decide (a = b) && decide (xs.drop (k + 1) = ys.drop (k + 1)))) := drop_eq_cons ha hb HS.out
        have hpa := hE.2.1
        have hpb := hE'.2.1
        have l1 : ad'.block < wr.heap.size := hpb
        have g0 : ∀ o : Obj, (wr.alloc o).cell? (ad'.add (k * 2)) = some (.slice B1 n3 c3) := fun o => ((frAlloc wr o).cell (by rw [block_of_add]; exact l1)).trans m2
        have g1 : ∀ o : Obj, (wr.alloc o).cell? ⟨(ad'.add (k * 2)).block, (ad'.add (k * 2)).off + 1, none⟩ = some (.slice B2 n4 c4) := fun o => ((frAlloc wr o).cell (by rw [block_of_add]; exact l1)).trans m3
        clear HS ha hb hra hrb hE hE'
        (have Hx1 := Lib.hid hx1; clear hx1; have Hx2 := Lib.hid hx2; clear hx2; have Hy1 := Lib.hid hy1; clear hy1; have Hy2 := Lib.hid hy2; clear hy2)
        go_wp2_with fail
        (with_reducible refine (HFN.out _ a b _ _ _ _ _ _ _ _ _ _ _ _ (Hx1.out.go (by (repeat' (first | exact Below.refl _ _ | refine below_drewN ?_ _ | refine Below.drew ?_ | refine frA ?_ _)))) (Hx2.out.go (by (repeat' (first | exact Below.refl _ _ | refine below_drewN ?_ _ | refine Below.drew ?_ | refine frA ?_ _)))) (Hy1.out.go (by (repeat' (first | exact Below.refl _ _ | refine below_drewN ?_ _ | refine Below.drew ?_ | refine frA ?_ _)))) (Hy2.out.go (by (repeat' (first | exact Below.refl _ _ | refine below_drewN ?_ _ | refine Below.drew ?_ | refine frA ?_ _))))).mono ?_)
        rintro e w1 ⟨rfl, hf1⟩
        have HF1 : Hid (Fr w w1) := HF.out.trans (Fr.trans (by (repeat' (first | exact Below.refl _ _ | refine below_drewN ?_ _ | refine Below.drew ?_ | refine frA ?_ _))) hf1)
        by_cases hab : a = b
        · have hd : decide (a = b) = true := decide_eq_true hab
          clear hab hf1 g0 g1 m0 m1 m2 m3
          go_wp2_with fail
          go_roundw
          case rel => exact ⟨k + 1, by omega, by go_num, by rw [Hid, HS'.out, hd]; simp, HF1⟩
          case measure => simp [intOf]; omega
        · have hd : decide (a = b) = false := decide_eq_false hab
          clear hab hf1 g0 g1 m0 m1 m2 m3
          go_wp2_with fail
          go_ret
          exact ⟨retB (by rw [HS'.out, hd]; simp), HF1.out⟩
      · have HE : Hid (decide (xs = ys) = true) := by
          have h1 := H.out.1
          have h2 := H'.out.1
          rw [Hid, HS.out, List.drop_eq_nil_of_le (by omega), List.drop_eq_nil_of_le (by have := HN.out; omega)]; rfl
        go_wp2_with fail
        go_ret
        exact ⟨retB HE.out.symm, HF.out⟩
  · have hne : ((n : Int) != (n' : Int)) = true := by rw [bne_iff_ne]; omega
    have HF : Hid (decide (xs = ys) = false) := by
      rw [Hid, decide_eq_false_iff_not]; rintro rfl; exact hn (H.out.1.symm.trans H'.out.1)
    go_enter Try.func63, Try.ntmps63
    go_wp2_with fail
    go_ret
    exact ⟨retB HF.out.symm, Below.refl _ _⟩

set_option maxRecDepth 100000 in
set_option maxHeartbeats 1000000 in
theorem sysSame_any (w : World) (B K B' K' : Int) (A A' : Option Addr) (n c n' c' : Nat) (xs ys : List Rw) (h : Sl 2 eRw w (LT w.heap.size) A n xs) (h' : Sl 2 eRw w (LT w.heap.size) A' n' ys) (hm : n ≤ maxLen) :
    Calls Try.prog 20 #[.agg #[.int .i64 B, .int .i64 K, .slice A n c], .agg #[.int .i64 B', .int .i64 K', .slice A' n' c']] w fun e w' => e = .returned (.bool (decide ((⟨B, K, xs⟩ : Sy) = ⟨B', K', ys⟩))) ∧ Fr w w' := by
  have E : Hid (decide ((⟨B, K, xs⟩ : Sy) = ⟨B', K', ys⟩) = ((B == B') && (K == K') && decide (xs = ys))) := by
    rw [Hid, Bool.eq_iff_iff]; simp [and_assoc]
  (have H := Lib.hid h; clear h)
  have H' := Lib.hid h'
  clear h'
  by_cases h1 : B = B'
  · by_cases h2 : K = K'
    · have e1 : (B == B') = true := by simp [h1]
      have e2 : (K == K') = true := by simp [h2]
      clear h1 h2
      go_enter Try.func20, Try.ntmps20
      go_wp2_with fail
      (with_reducible refine (equalFuncRow_any _ 64 (fun _ _ => by kernel_rfl) sameRow_any _ _ _ _ _ _ xs ys (H.out.go sRw (by (repeat' (first | exact Below.refl _ _ | refine below_drewN ?_ _ | refine Below.drew ?_ | refine frA ?_ _)))) (H'.out.go sRw (by (repeat' (first | exact Below.refl _ _ | refine below_drewN ?_ _ | refine Below.drew ?_ | refine frA ?_ _)))) hm).mono ?_)
      rintro e w1 ⟨rfl, hf1⟩
      go_wp2_with fail
      go_ret
      exact ⟨retB (by rw [E.out, e1, e2]; simp), Fr.trans (by (repeat' (first | exact Below.refl _ _ | refine below_drewN ?_ _ | refine Below.drew ?_ | refine frA ?_ _))) hf1⟩
    · have e1 : (B == B') = true := by simp [h1]
      have e2 : (K == K') = false := by simp [h2]
      clear h1 h2
      go_enter Try.func20, Try.ntmps20
      go_wp2_with fail
      go_ret
      exact ⟨retB (by rw [E.out, e1, e2]; simp), by (repeat' (first | exact Below.refl _ _ | refine below_drewN ?_ _ | refine Below.drew ?_ | refine frA ?_ _))⟩
  · have e1 : (B == B') = false := by simp [h1]
    clear h1
    go_enter Try.func20, Try.ntmps20
    go_wp2_with fail
    go_ret
    exact ⟨retB (by rw [E.out, e1]; simp), by (repeat' (first | exact Below.refl _ _ | refine below_drewN ?_ _ | refine Below.drew ?_ | refine frA ?_ _))⟩
end Go.Proofs.Ytnfjghldcopaaaa
