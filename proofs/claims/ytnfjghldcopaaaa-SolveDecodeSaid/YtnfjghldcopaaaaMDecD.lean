/- Contracts of the reference's SymbolOf and CheckSymbol, errors too. No condition. -/
import Derived.Test.YtnfjghldcopaaaaSysSame
import Derived.Test.YtnfjghldcopaaaaBox
import Derived.Test.YtnfjghldcopaaaaMDecA
import Derived.Deep.DeepCutAuto
import Derived.Deep.Cut
import Derived.Test.YtnfjghldcopaaaaKnown
import Derived.Test.YtnfjghldcopaaaaSolved
import Derived.Test.YtnfjghldcopaaaaMDecC
import Derived.Deep.RegionHeld3
import Derived.Test.YtnfjghldcopaaaaMDecF
import Derived.Test.YtnfjghldcopaaaaEq
set_option linter.unusedSimpArgs false
set_option linter.unusedVariables false
namespace Go.Proofs.Ytnfjghldcopaaaa
open Go.RowKit
attribute [local irreducible] wpList

theorem equalBools_lit (w : World) (A A' : Option Addr) (n c n' c' : Nat) (xs ys : List Bool) (b : Bool) (E : decide (xs = ys) = b) (h : Sl 1 eBool w (LT w.heap.size) A n xs) (h' : Sl 1 eBool w (LT w.heap.size) A' n' ys) (hm : n ≤ maxLen) :
    Calls Try.prog 65 #[.slice A n c, .slice A' n' c'] w fun e w' => e = .returned (.bool b) ∧ Fr w w' :=
  (equalBools_any w _ _ A A' n c n' c' xs ys h h' hm).mono fun e w' ⟨he, m, hw⟩ => ⟨by rw [he, E], by rw [hw]; exact frDrewN _ _⟩
theorem equalBlock_lit (w : World) (A A' : Option Addr) (n c n' c' : Nat) (xs ys : List UInt8) (b : Bool) (E : decide (xs = ys) = b) (h : Sl 1 eByte w (LT w.heap.size) A n xs) (h' : Sl 1 eByte w (LT w.heap.size) A' n' ys) (hm : n ≤ maxLen) :
    Calls Try.prog 26 #[.slice A n c, .slice A' n' c'] w fun e w' => e = .returned (.bool b) ∧ Fr w w' :=
  (equalBlock_any w _ _ A A' n c n' c' xs ys h h' hm).mono fun e w' ⟨he, m, hw⟩ => ⟨by rw [he, E], by rw [hw]; exact frDrewN _ _⟩

set_option maxRecDepth 100000 in
set_option maxHeartbeats 1000000 in
theorem refSame_any (w : World) (B K B' K' : Int) (A A' : Option Addr) (n c n' c' : Nat) (xs ys : List Rw) (h : Sl 2 eRw w (LT w.heap.size) A n xs) (h' : Sl 2 eRw w (LT w.heap.size) A' n' ys) (hm : n ≤ lim) :
    Calls Try.prog 21 #[.agg #[.int .i64 B, .int .i64 K, .slice A n c], .agg #[.int .i64 B', .int .i64 K', .slice A' n' c']] w fun e w' => e = .returned (.bool (decide ((⟨B, K, xs⟩ : Sy) = ⟨B', K', ys⟩))) ∧ Fr w w' := by
  have E : Hid (decide ((⟨B, K, xs⟩ : Sy) = ⟨B', K', ys⟩) = ((B == B') && (K == K') && decide (xs = ys))) := by
    rw [Hid, Bool.eq_iff_iff]; simp [and_assoc]
  have hx := h.1
  have hy := h'.1
  by_cases hne : B = B' ∧ K = K' ∧ n = n'
  · obtain ⟨rfl, rfl, rfl⟩ := hne
    have E2 : Hid (decide ((⟨B, K, xs⟩ : Sy) = ⟨B, K, ys⟩) = decide (xs = ys)) := by rw [Hid, E.out]; simp
    have t1 : (B != B) = false := by simp
    have t2 : (K != K) = false := by simp
    have t3 : ((n : Int) != (n : Int)) = false := by simp
    obtain ⟨W1, hW1⟩ : ∃ W1, W1 = (w.alloc (.cells #[.int .i64 B, .int .i64 K, .slice A n c] 24)).alloc (.cells #[.int .i64 B, .int .i64 K, .slice A' n c'] 24) := ⟨_, rfl⟩
    have HF1 : Hid (Fr w W1) := by rw [hW1]; exact (frAlloc _ _).trans (frAlloc _ _)
    obtain ⟨p, hp⟩ : ∃ p, p = w.heap.size + 1 := ⟨_, rfl⟩
    have HB1 : Hid (W1.heap[p]? = some (.cells #[.int .i64 B, .int .i64 K, .slice A' n c'] 24 (0, 0))) := by rw [hW1]; exact heap_new (by rw [hp]; simp)
    have H := Lib.hid (h.go sRw HF1.out)
    have H' := Lib.hid (h'.go sRw HF1.out)
    unfold lim at hm
    (have Hx := Lib.hid hx; clear hx; have Hy := Lib.hid hy; clear hy; have HW1 := Lib.hid hW1; clear hW1; have Hp := Lib.hid hp; clear hp)
    clear h h'
    go_enter Try.func21, Try.ntmps21
    go_wp2_with fail
    rw [← HW1.out, ← Hp.out]
    clear HW1 Hp
    go_loopw [31] (fun s31 wr => ∃ i : Nat, i ≤ n ∧ s31 = .int .i64 i ∧ Hid (decide (xs = ys) = decide (xs.drop i = ys.drop i)) ∧ Hid (Fr W1 wr)) (fun s31 _ => n - (intOf s31).toNat)
    case atStart => exact ⟨0, Nat.zero_le _, rfl, rfl, Below.refl _ _⟩
    case round =>
      obtain ⟨i, hi, rfl, HS, HF⟩ := hrel
      by_cases hlt : i < n
      · obtain ⟨ad, rfl, hE⟩ := (H.out.go sRw HF.out).els (by omega)
        obtain ⟨ad', rfl, hE'⟩ := (H'.out.go sRw HF.out).els (by omega)
        obtain ⟨a, ha, hra⟩ := hE.row hlt
        obtain ⟨b, hb, hrb⟩ := hE'.row hlt
        obtain ⟨A1, n1, c1, A2, n2, c2, ⟨m0, m1⟩, hx1, hx2⟩ := eRw_at hra
        obtain ⟨B1, n3, c3, B2, n4, c4, ⟨m2, m3⟩, hy1, hy2⟩ := eRw_at hrb
        have HS' : Hid (decide (xs = ys) = (decide (a = b) && decide (xs.drop (i + 1) = ys.drop (i + 1)))) := drop_eq_cons ha hb HS.out
        have l1 : ad'.block < wr.heap.size := hE'.2.1
        obtain ⟨q, hq⟩ : ∃ q, q = wr.heap.size := ⟨_, rfl⟩
        obtain ⟨W5, hW5⟩ : ∃ W5, W5 = wr.alloc (.cells #[.slice A1 n1 c1, .slice A2 n2 c2] 29) := ⟨_, rfl⟩
        have HF5 : Hid (Fr wr W5) := by rw [hW5]; exact frAlloc _ _
        have HR5 : Hid (W5.heap[q]? = some (.cells #[.slice A1 n1 c1, .slice A2 n2 c2] 29 (0, 0))) := by rw [hW5]; exact heap_new hq
        have HB5 := Lib.hid (blk_go (blk_go HB1.out HF.out) HF5.out)
        have g0 : W5.cell? (ad'.add (i * 2)) = some (.slice B1 n3 c3) := (HF5.out.cell (by rw [block_of_add]; exact l1)).trans m2
        have g1 : W5.cell? ⟨(ad'.add (i * 2)).block, (ad'.add (i * 2)).off + 1, none⟩ = some (.slice B2 n4 c4) := (HF5.out.cell (by rw [block_of_add]; exact l1)).trans m3
        have l5 : (ad'.add (i * 2)).block < W5.heap.size := by rw [block_of_add]; exact Nat.lt_of_lt_of_le l1 HF5.out.size
        have HK : Hid (∀ w', Fr W5 w' → w'.cell? ⟨q, 0, none⟩ = some (.slice A1 n1 c1) ∧ w'.cell? ⟨q, 1, none⟩ = some (.slice A2 n2 c2) ∧ w'.cell? ⟨p, 2, none⟩ = some (.slice (some ad') n c') ∧ w'.cell? (ad'.add (i * 2)) = some (.slice B1 n3 c3) ∧ w'.cell? ⟨(ad'.add (i * 2)).block, (ad'.add (i * 2)).off + 1, none⟩ = some (.slice B2 n4 c4)) := fun w' hf =>
          ⟨cell_of_heap (i := 0) (blk_go HR5.out hf), cell_of_heap (i := 1) (blk_go HR5.out hf), cell_of_heap (i := 2) (blk_go HB5.out hf), (hf.cell l5).trans g0, (hf.cell (p := ⟨(ad'.add (i * 2)).block, (ad'.add (i * 2)).off + 1, none⟩) l5).trans g1⟩
        have r1 := hx1.go HF5.out
        have r2 := hx2.go HF5.out
        have r3 := hy1.go HF5.out
        have r4 := hy2.go HF5.out
        have hn1 : n1 ≤ maxLen := by have := hx1.1; omega
        have hn2 : n2 ≤ maxLen := by have := hx2.1; omega
        have HE1 : Hid (∀ W, Fr W5 W → Calls Try.prog 65 #[.slice A1 n1 c1, .slice B1 n3 c3] W fun e w' => e = .returned (.bool (decide (a.has = b.has))) ∧ Fr W5 w') := fun W hf =>
          (equalBools_lit W _ _ _ _ _ _ a.has b.has _ rfl (r1.2.go sBool hf) (r3.2.go sBool hf) hn1).mono fun e w' ⟨he, h⟩ => ⟨he, hf.trans h⟩
        have HE2 : Hid (∀ W, Fr W5 W → Calls Try.prog 26 #[.slice A2 n2 c2, .slice B2 n4 c4] W fun e w' => e = .returned (.bool (decide (a.data = b.data))) ∧ Fr W5 w') := fun W hf =>
          (equalBlock_lit W _ _ _ _ _ _ a.data b.data _ rfl (r2.2.go sByte hf) (r4.2.go sByte hf) hn2).mono fun e w' ⟨he, h⟩ => ⟨he, hf.trans h⟩
        obtain ⟨b1, hb1⟩ : ∃ b1, b1 = decide (a.has = b.has) := ⟨_, rfl⟩
        obtain ⟨b2, hb2⟩ : ∃ b2, b2 = decide (a.data = b.data) := ⟨_, rfl⟩
        have HAB : Hid (decide (a = b) = (b1 && b2)) := by
          rw [hb1, hb2, Hid]
          cases a; cases b
          rw [Bool.eq_iff_iff]; simp
        rw [← hb1] at HE1
        rw [← hb2] at HE2
        have HQ := Lib.hid hq
        have HW5 := Lib.hid hW5
        clear HS ha hb hra hrb hE hE' hx1 hx2 hy1 hy2 r1 r2 r3 r4 hn1 hn2 hb1 hb2 hq hW5 g0 g1 m2 m3
        go_upto_region 6 with fail
        rw [← HW5.out, ← HQ.out]
        clear HW5 HQ m0 m1
        go_cut [57] (fun s57 wx => s57 = .bool (!(b1 && b2)) ∧ Hid (Fr W5 wx))
        case first =>
          have HG : Hid (Fr W5 W5.drew) := (Below.refl _ _).drew
          cases b1
          · refine held_begin (n := 22) (bs := #[false, false, false, false, false, false, false, false, false, false, false, false, false, false, false, false, false, false, false, false, false, false]) rfl rfl (by kernel_rfl) (S := fun w' => w'.cell? ⟨q, 0, none⟩ = some (.slice A1 n1 c1) ∧ w'.cell? ⟨q, 1, none⟩ = some (.slice A2 n2 c2) ∧ w'.cell? ⟨p, 2, none⟩ = some (.slice (some ad') n c') ∧ w'.cell? (ad'.add (i * 2)) = some (.slice B1 n3 c3) ∧ w'.cell? ⟨(ad'.add (i * 2)).block, (ad'.add (i * 2)).off + 1, none⟩ = some (.slice B2 n4 c4)) (HK.out _ HG.out) (fun hHeld => ?_)
            ((first | (refine held_skip (i := 0) (a' := ?hA1) (l' := ?hL1) rfl (by kernel_rfl) (by kernel_rfl) (by kernel_rfl) (fun _ _ _ h => h) (by rfl) (by assumption) ?ha1 ?hl1 ?hh1; (case ha1 => (simp only [Act.put, hq1, hq2, hq3, Option.isNone, Bool.not_true, Bool.not_false]; (try with_reducible rfl))); (case hl1 => (simp only [Act.put, hq1, hq2, hq3, Option.isNone, Bool.not_true, Bool.not_false]; (try with_reducible rfl)))) | (refine held_take (i := 0) (v := ?hV1) (a' := ?hA1) (l' := ?hL1) rfl (by kernel_rfl) (by kernel_rfl) (by kernel_rfl) (fun _ _ _ h => h) (by rfl) ?hv1 (by assumption) ?ha1 ?hl1 ?hh1; (case hv1 => (intro w hSw; (try dsimp only at hSw); go_simp; (try simp only [run_eql_slice_nil _ 27 _ _ _ _ Try.underlying27, Result.andThen_ok]); (try with_reducible rfl))); (case ha1 => (simp only [Act.put, hq1, hq2, hq3, Option.isNone, Bool.not_true, Bool.not_false]; (try with_reducible rfl))); (case hl1 => (simp only [Act.put, hq1, hq2, hq3, Option.isNone, Bool.not_true, Bool.not_false]; (try with_reducible rfl))))); (first | (refine held_skip (i := 1) (a' := ?hA2) (l' := ?hL2) rfl (by kernel_rfl) (by kernel_rfl) (by kernel_rfl) (fun _ _ _ h => h) (by rfl) (by assumption) ?ha2 ?hl2 ?hh2; (case ha2 => (simp only [Act.put, hq1, hq2, hq3, Option.isNone, Bool.not_true, Bool.not_false]; (try with_reducible rfl))); (case hl2 => (simp only [Act.put, hq1, hq2, hq3, Option.isNone, Bool.not_true, Bool.not_false]; (try with_reducible rfl)))) | (refine held_take (i := 1) (v := ?hV2) (a' := ?hA2) (l' := ?hL2) rfl (by kernel_rfl) (by kernel_rfl) (by kernel_rfl) (fun _ _ _ h => h) (by rfl) ?hv2 (by assumption) ?ha2 ?hl2 ?hh2; (case hv2 => (intro w hSw; (try dsimp only at hSw); go_simp; (try simp only [run_eql_slice_nil _ 27 _ _ _ _ Try.underlying27, Result.andThen_ok]); (try with_reducible rfl))); (case ha2 => (simp only [Act.put, hq1, hq2, hq3, Option.isNone, Bool.not_true, Bool.not_false]; (try with_reducible rfl))); (case hl2 => (simp only [Act.put, hq1, hq2, hq3, Option.isNone, Bool.not_true, Bool.not_false]; (try with_reducible rfl))))); (first | (refine held_skip (i := 2) (a' := ?hA3) (l' := ?hL3) rfl (by kernel_rfl) (by kernel_rfl) (by kernel_rfl) (fun _ _ _ h => h) (by rfl) (by assumption) ?ha3 ?hl3 ?hh3; (case ha3 => (simp only [Act.put, hq1, hq2, hq3, Option.isNone, Bool.not_true, Bool.not_false]; (try with_reducible rfl))); (case hl3 => (simp only [Act.put, hq1, hq2, hq3, Option.isNone, Bool.not_true, Bool.not_false]; (try with_reducible rfl)))) | (refine held_take (i := 2) (v := ?hV3) (a' := ?hA3) (l' := ?hL3) rfl (by kernel_rfl) (by kernel_rfl) (by kernel_rfl) (fun _ _ _ h => h) (by rfl) ?hv3 (by assumption) ?ha3 ?hl3 ?hh3; (case hv3 => (intro w hSw; (try dsimp only at hSw); go_simp; (try simp only [run_eql_slice_nil _ 27 _ _ _ _ Try.underlying27, Result.andThen_ok]); (try with_reducible rfl))); (case ha3 => (simp only [Act.put, hq1, hq2, hq3, Option.isNone, Bool.not_true, Bool.not_false]; (try with_reducible rfl))); (case hl3 => (simp only [Act.put, hq1, hq2, hq3, Option.isNone, Bool.not_true, Bool.not_false]; (try with_reducible rfl))))); (first | (refine held_skip (i := 3) (a' := ?hA4) (l' := ?hL4) rfl (by kernel_rfl) (by kernel_rfl) (by kernel_rfl) (fun _ _ _ h => h) (by rfl) (by assumption) ?ha4 ?hl4 ?hh4; (case ha4 => (simp only [Act.put, hq1, hq2, hq3, Option.isNone, Bool.not_true, Bool.not_false]; (try with_reducible rfl))); (case hl4 => (simp only [Act.put, hq1, hq2, hq3, Option.isNone, Bool.not_true, Bool.not_false]; (try with_reducible rfl)))) | (refine held_take (i := 3) (v := ?hV4) (a' := ?hA4) (l' := ?hL4) rfl (by kernel_rfl) (by kernel_rfl) (by kernel_rfl) (fun _ _ _ h => h) (by rfl) ?hv4 (by assumption) ?ha4 ?hl4 ?hh4; (case hv4 => (intro w hSw; (try dsimp only at hSw); go_simp; (try simp only [run_eql_slice_nil _ 27 _ _ _ _ Try.underlying27, Result.andThen_ok]); (try with_reducible rfl))); (case ha4 => (simp only [Act.put, hq1, hq2, hq3, Option.isNone, Bool.not_true, Bool.not_false]; (try with_reducible rfl))); (case hl4 => (simp only [Act.put, hq1, hq2, hq3, Option.isNone, Bool.not_true, Bool.not_false]; (try with_reducible rfl))))); (first | (refine held_skip (i := 4) (a' := ?hA5) (l' := ?hL5) rfl (by kernel_rfl) (by kernel_rfl) (by kernel_rfl) (fun _ _ _ h => h) (by rfl) (by assumption) ?ha5 ?hl5 ?hh5; (case ha5 => (simp only [Act.put, hq1, hq2, hq3, Option.isNone, Bool.not_true, Bool.not_false]; (try with_reducible rfl))); (case hl5 => (simp only [Act.put, hq1, hq2, hq3, Option.isNone, Bool.not_true, Bool.not_false]; (try with_reducible rfl)))) | (refine held_take (i := 4) (v := ?hV5) (a' := ?hA5) (l' := ?hL5) rfl (by kernel_rfl) (by kernel_rfl) (by kernel_rfl) (fun _ _ _ h => h) (by rfl) ?hv5 (by assumption) ?ha5 ?hl5 ?hh5; (case hv5 => (intro w hSw; (try dsimp only at hSw); go_simp; (try simp only [run_eql_slice_nil _ 27 _ _ _ _ Try.underlying27, Result.andThen_ok]); (try with_reducible rfl))); (case ha5 => (simp only [Act.put, hq1, hq2, hq3, Option.isNone, Bool.not_true, Bool.not_false]; (try with_reducible rfl))); (case hl5 => (simp only [Act.put, hq1, hq2, hq3, Option.isNone, Bool.not_true, Bool.not_false]; (try with_reducible rfl))))); (first | (refine held_skip (i := 5) (a' := ?hA6) (l' := ?hL6) rfl (by kernel_rfl) (by kernel_rfl) (by kernel_rfl) (fun _ _ _ h => h) (by rfl) (by assumption) ?ha6 ?hl6 ?hh6; (case ha6 => (simp only [Act.put, hq1, hq2, hq3, Option.isNone, Bool.not_true, Bool.not_false]; (try with_reducible rfl))); (case hl6 => (simp only [Act.put, hq1, hq2, hq3, Option.isNone, Bool.not_true, Bool.not_false]; (try with_reducible rfl)))) | (refine held_take (i := 5) (v := ?hV6) (a' := ?hA6) (l' := ?hL6) rfl (by kernel_rfl) (by kernel_rfl) (by kernel_rfl) (fun _ _ _ h => h) (by rfl) ?hv6 (by assumption) ?ha6 ?hl6 ?hh6; (case hv6 => (intro w hSw; (try dsimp only at hSw); go_simp; (try simp only [run_eql_slice_nil _ 27 _ _ _ _ Try.underlying27, Result.andThen_ok]); (try with_reducible rfl))); (case ha6 => (simp only [Act.put, hq1, hq2, hq3, Option.isNone, Bool.not_true, Bool.not_false]; (try with_reducible rfl))); (case hl6 => (simp only [Act.put, hq1, hq2, hq3, Option.isNone, Bool.not_true, Bool.not_false]; (try with_reducible rfl))))); (first | (refine held_skip (i := 6) (a' := ?hA7) (l' := ?hL7) rfl (by kernel_rfl) (by kernel_rfl) (by kernel_rfl) (fun _ _ _ h => h) (by rfl) (by assumption) ?ha7 ?hl7 ?hh7; (case ha7 => (simp only [Act.put, hq1, hq2, hq3, Option.isNone, Bool.not_true, Bool.not_false]; (try with_reducible rfl))); (case hl7 => (simp only [Act.put, hq1, hq2, hq3, Option.isNone, Bool.not_true, Bool.not_false]; (try with_reducible rfl)))) | (refine held_take (i := 6) (v := ?hV7) (a' := ?hA7) (l' := ?hL7) rfl (by kernel_rfl) (by kernel_rfl) (by kernel_rfl) (fun _ _ _ h => h) (by rfl) ?hv7 (by assumption) ?ha7 ?hl7 ?hh7; (case hv7 => (intro w hSw; (try dsimp only at hSw); go_simp; (try simp only [run_eql_slice_nil _ 27 _ _ _ _ Try.underlying27, Result.andThen_ok]); (try with_reducible rfl))); (case ha7 => (simp only [Act.put, hq1, hq2, hq3, Option.isNone, Bool.not_true, Bool.not_false]; (try with_reducible rfl))); (case hl7 => (simp only [Act.put, hq1, hq2, hq3, Option.isNone, Bool.not_true, Bool.not_false]; (try with_reducible rfl))))); (first | (refine held_skip (i := 7) (a' := ?hA8) (l' := ?hL8) rfl (by kernel_rfl) (by kernel_rfl) (by kernel_rfl) (fun _ _ _ h => h) (by rfl) (by assumption) ?ha8 ?hl8 ?hh8; (case ha8 => (simp only [Act.put, hq1, hq2, hq3, Option.isNone, Bool.not_true, Bool.not_false]; (try with_reducible rfl))); (case hl8 => (simp only [Act.put, hq1, hq2, hq3, Option.isNone, Bool.not_true, Bool.not_false]; (try with_reducible rfl)))) | (refine held_take (i := 7) (v := ?hV8) (a' := ?hA8) (l' := ?hL8) rfl (by kernel_rfl) (by kernel_rfl) (by kernel_rfl) (fun _ _ _ h => h) (by rfl) ?hv8 (by assumption) ?ha8 ?hl8 ?hh8; (case hv8 => (intro w hSw; (try dsimp only at hSw); go_simp; (try simp only [run_eql_slice_nil _ 27 _ _ _ _ Try.underlying27, Result.andThen_ok]); (try with_reducible rfl))); (case ha8 => (simp only [Act.put, hq1, hq2, hq3, Option.isNone, Bool.not_true, Bool.not_false]; (try with_reducible rfl))); (case hl8 => (simp only [Act.put, hq1, hq2, hq3, Option.isNone, Bool.not_true, Bool.not_false]; (try with_reducible rfl))))))
            refine held_one (i := 8) rfl (by kernel_rfl) (fun K hK => ?_)
            go_simp
            go_at_call 65
            (with_reducible refine (HE1.out _ HG.out).mono ?_)
            rintro e w6 ⟨rfl, hf6⟩
            (refine held_back hK (a' := ?hA22) (l' := ?hL22) ?ha22 ?hl22 (HK.out _ hf6) (fun hHeld => ?hh22); (case ha22 => first | with_reducible rfl | (simp only [Act.put, hq1, hq2, hq3, Option.isNone, Bool.not_true, Bool.not_false]; (try with_reducible rfl))); (case hl22 => (simp only [Act.put, hq1, hq2, hq3, Option.isNone, Bool.not_true, Bool.not_false]; (try with_reducible rfl))); clear hK K)
            ((first | (refine held_skip (i := 9) (a' := ?hA9) (l' := ?hL9) rfl (by kernel_rfl) (by kernel_rfl) (by kernel_rfl) (fun _ _ _ h => h) (by rfl) (by assumption) ?ha9 ?hl9 ?hh9; (case ha9 => (simp only [Act.put, hq1, hq2, hq3, Option.isNone, Bool.not_true, Bool.not_false]; (try with_reducible rfl))); (case hl9 => (simp only [Act.put, hq1, hq2, hq3, Option.isNone, Bool.not_true, Bool.not_false]; (try with_reducible rfl)))) | (refine held_take (i := 9) (v := ?hV9) (a' := ?hA9) (l' := ?hL9) rfl (by kernel_rfl) (by kernel_rfl) (by kernel_rfl) (fun _ _ _ h => h) (by rfl) ?hv9 (by assumption) ?ha9 ?hl9 ?hh9; (case hv9 => (intro w hSw; (try dsimp only at hSw); go_simp; (try simp only [run_eql_slice_nil _ 27 _ _ _ _ Try.underlying27, Result.andThen_ok]); (try with_reducible rfl))); (case ha9 => (simp only [Act.put, hq1, hq2, hq3, Option.isNone, Bool.not_true, Bool.not_false]; (try with_reducible rfl))); (case hl9 => (simp only [Act.put, hq1, hq2, hq3, Option.isNone, Bool.not_true, Bool.not_false]; (try with_reducible rfl))))); (first | (refine held_skip (i := 10) (a' := ?hA10) (l' := ?hL10) rfl (by kernel_rfl) (by kernel_rfl) (by kernel_rfl) (fun _ _ _ h => h) (by rfl) (by assumption) ?ha10 ?hl10 ?hh10; (case ha10 => (simp only [Act.put, hq1, hq2, hq3, Option.isNone, Bool.not_true, Bool.not_false]; (try with_reducible rfl))); (case hl10 => (simp only [Act.put, hq1, hq2, hq3, Option.isNone, Bool.not_true, Bool.not_false]; (try with_reducible rfl)))) | (refine held_take (i := 10) (v := ?hV10) (a' := ?hA10) (l' := ?hL10) rfl (by kernel_rfl) (by kernel_rfl) (by kernel_rfl) (fun _ _ _ h => h) (by rfl) ?hv10 (by assumption) ?ha10 ?hl10 ?hh10; (case hv10 => (intro w hSw; (try dsimp only at hSw); go_simp; (try simp only [run_eql_slice_nil _ 27 _ _ _ _ Try.underlying27, Result.andThen_ok]); (try with_reducible rfl))); (case ha10 => (simp only [Act.put, hq1, hq2, hq3, Option.isNone, Bool.not_true, Bool.not_false]; (try with_reducible rfl))); (case hl10 => (simp only [Act.put, hq1, hq2, hq3, Option.isNone, Bool.not_true, Bool.not_false]; (try with_reducible rfl))))); (first | (refine held_skip (i := 11) (a' := ?hA11) (l' := ?hL11) rfl (by kernel_rfl) (by kernel_rfl) (by kernel_rfl) (fun _ _ _ h => h) (by rfl) (by assumption) ?ha11 ?hl11 ?hh11; (case ha11 => (simp only [Act.put, hq1, hq2, hq3, Option.isNone, Bool.not_true, Bool.not_false]; (try with_reducible rfl))); (case hl11 => (simp only [Act.put, hq1, hq2, hq3, Option.isNone, Bool.not_true, Bool.not_false]; (try with_reducible rfl)))) | (refine held_take (i := 11) (v := ?hV11) (a' := ?hA11) (l' := ?hL11) rfl (by kernel_rfl) (by kernel_rfl) (by kernel_rfl) (fun _ _ _ h => h) (by rfl) ?hv11 (by assumption) ?ha11 ?hl11 ?hh11; (case hv11 => (intro w hSw; (try dsimp only at hSw); go_simp; (try simp only [run_eql_slice_nil _ 27 _ _ _ _ Try.underlying27, Result.andThen_ok]); (try with_reducible rfl))); (case ha11 => (simp only [Act.put, hq1, hq2, hq3, Option.isNone, Bool.not_true, Bool.not_false]; (try with_reducible rfl))); (case hl11 => (simp only [Act.put, hq1, hq2, hq3, Option.isNone, Bool.not_true, Bool.not_false]; (try with_reducible rfl))))); (first | (refine held_skip (i := 12) (a' := ?hA12) (l' := ?hL12) rfl (by kernel_rfl) (by kernel_rfl) (by kernel_rfl) (fun _ _ _ h => h) (by rfl) (by assumption) ?ha12 ?hl12 ?hh12; (case ha12 => (simp only [Act.put, hq1, hq2, hq3, Option.isNone, Bool.not_true, Bool.not_false]; (try with_reducible rfl))); (case hl12 => (simp only [Act.put, hq1, hq2, hq3, Option.isNone, Bool.not_true, Bool.not_false]; (try with_reducible rfl)))) | (refine held_take (i := 12) (v := ?hV12) (a' := ?hA12) (l' := ?hL12) rfl (by kernel_rfl) (by kernel_rfl) (by kernel_rfl) (fun _ _ _ h => h) (by rfl) ?hv12 (by assumption) ?ha12 ?hl12 ?hh12; (case hv12 => (intro w hSw; (try dsimp only at hSw); go_simp; (try simp only [run_eql_slice_nil _ 27 _ _ _ _ Try.underlying27, Result.andThen_ok]); (try with_reducible rfl))); (case ha12 => (simp only [Act.put, hq1, hq2, hq3, Option.isNone, Bool.not_true, Bool.not_false]; (try with_reducible rfl))); (case hl12 => (simp only [Act.put, hq1, hq2, hq3, Option.isNone, Bool.not_true, Bool.not_false]; (try with_reducible rfl))))); (first | (refine held_skip (i := 13) (a' := ?hA13) (l' := ?hL13) rfl (by kernel_rfl) (by kernel_rfl) (by kernel_rfl) (fun _ _ _ h => h) (by rfl) (by assumption) ?ha13 ?hl13 ?hh13; (case ha13 => (simp only [Act.put, hq1, hq2, hq3, Option.isNone, Bool.not_true, Bool.not_false]; (try with_reducible rfl))); (case hl13 => (simp only [Act.put, hq1, hq2, hq3, Option.isNone, Bool.not_true, Bool.not_false]; (try with_reducible rfl)))) | (refine held_take (i := 13) (v := ?hV13) (a' := ?hA13) (l' := ?hL13) rfl (by kernel_rfl) (by kernel_rfl) (by kernel_rfl) (fun _ _ _ h => h) (by rfl) ?hv13 (by assumption) ?ha13 ?hl13 ?hh13; (case hv13 => (intro w hSw; (try dsimp only at hSw); go_simp; (try simp only [run_eql_slice_nil _ 27 _ _ _ _ Try.underlying27, Result.andThen_ok]); (try with_reducible rfl))); (case ha13 => (simp only [Act.put, hq1, hq2, hq3, Option.isNone, Bool.not_true, Bool.not_false]; (try with_reducible rfl))); (case hl13 => (simp only [Act.put, hq1, hq2, hq3, Option.isNone, Bool.not_true, Bool.not_false]; (try with_reducible rfl))))); (first | (refine held_skip (i := 14) (a' := ?hA14) (l' := ?hL14) rfl (by kernel_rfl) (by kernel_rfl) (by kernel_rfl) (fun _ _ _ h => h) (by rfl) (by assumption) ?ha14 ?hl14 ?hh14; (case ha14 => (simp only [Act.put, hq1, hq2, hq3, Option.isNone, Bool.not_true, Bool.not_false]; (try with_reducible rfl))); (case hl14 => (simp only [Act.put, hq1, hq2, hq3, Option.isNone, Bool.not_true, Bool.not_false]; (try with_reducible rfl)))) | (refine held_take (i := 14) (v := ?hV14) (a' := ?hA14) (l' := ?hL14) rfl (by kernel_rfl) (by kernel_rfl) (by kernel_rfl) (fun _ _ _ h => h) (by rfl) ?hv14 (by assumption) ?ha14 ?hl14 ?hh14; (case hv14 => (intro w hSw; (try dsimp only at hSw); go_simp; (try simp only [run_eql_slice_nil _ 27 _ _ _ _ Try.underlying27, Result.andThen_ok]); (try with_reducible rfl))); (case ha14 => (simp only [Act.put, hq1, hq2, hq3, Option.isNone, Bool.not_true, Bool.not_false]; (try with_reducible rfl))); (case hl14 => (simp only [Act.put, hq1, hq2, hq3, Option.isNone, Bool.not_true, Bool.not_false]; (try with_reducible rfl))))); (first | (refine held_skip (i := 15) (a' := ?hA15) (l' := ?hL15) rfl (by kernel_rfl) (by kernel_rfl) (by kernel_rfl) (fun _ _ _ h => h) (by rfl) (by assumption) ?ha15 ?hl15 ?hh15; (case ha15 => (simp only [Act.put, hq1, hq2, hq3, Option.isNone, Bool.not_true, Bool.not_false]; (try with_reducible rfl))); (case hl15 => (simp only [Act.put, hq1, hq2, hq3, Option.isNone, Bool.not_true, Bool.not_false]; (try with_reducible rfl)))) | (refine held_take (i := 15) (v := ?hV15) (a' := ?hA15) (l' := ?hL15) rfl (by kernel_rfl) (by kernel_rfl) (by kernel_rfl) (fun _ _ _ h => h) (by rfl) ?hv15 (by assumption) ?ha15 ?hl15 ?hh15; (case hv15 => (intro w hSw; (try dsimp only at hSw); go_simp; (try simp only [run_eql_slice_nil _ 27 _ _ _ _ Try.underlying27, Result.andThen_ok]); (try with_reducible rfl))); (case ha15 => (simp only [Act.put, hq1, hq2, hq3, Option.isNone, Bool.not_true, Bool.not_false]; (try with_reducible rfl))); (case hl15 => (simp only [Act.put, hq1, hq2, hq3, Option.isNone, Bool.not_true, Bool.not_false]; (try with_reducible rfl))))); (first | (refine held_skip (i := 16) (a' := ?hA16) (l' := ?hL16) rfl (by kernel_rfl) (by kernel_rfl) (by kernel_rfl) (fun _ _ _ h => h) (by rfl) (by assumption) ?ha16 ?hl16 ?hh16; (case ha16 => (simp only [Act.put, hq1, hq2, hq3, Option.isNone, Bool.not_true, Bool.not_false]; (try with_reducible rfl))); (case hl16 => (simp only [Act.put, hq1, hq2, hq3, Option.isNone, Bool.not_true, Bool.not_false]; (try with_reducible rfl)))) | (refine held_take (i := 16) (v := ?hV16) (a' := ?hA16) (l' := ?hL16) rfl (by kernel_rfl) (by kernel_rfl) (by kernel_rfl) (fun _ _ _ h => h) (by rfl) ?hv16 (by assumption) ?ha16 ?hl16 ?hh16; (case hv16 => (intro w hSw; (try dsimp only at hSw); go_simp; (try simp only [run_eql_slice_nil _ 27 _ _ _ _ Try.underlying27, Result.andThen_ok]); (try with_reducible rfl))); (case ha16 => (simp only [Act.put, hq1, hq2, hq3, Option.isNone, Bool.not_true, Bool.not_false]; (try with_reducible rfl))); (case hl16 => (simp only [Act.put, hq1, hq2, hq3, Option.isNone, Bool.not_true, Bool.not_false]; (try with_reducible rfl))))); (first | (refine held_skip (i := 17) (a' := ?hA17) (l' := ?hL17) rfl (by kernel_rfl) (by kernel_rfl) (by kernel_rfl) (fun _ _ _ h => h) (by rfl) (by assumption) ?ha17 ?hl17 ?hh17; (case ha17 => (simp only [Act.put, hq1, hq2, hq3, Option.isNone, Bool.not_true, Bool.not_false]; (try with_reducible rfl))); (case hl17 => (simp only [Act.put, hq1, hq2, hq3, Option.isNone, Bool.not_true, Bool.not_false]; (try with_reducible rfl)))) | (refine held_take (i := 17) (v := ?hV17) (a' := ?hA17) (l' := ?hL17) rfl (by kernel_rfl) (by kernel_rfl) (by kernel_rfl) (fun _ _ _ h => h) (by rfl) ?hv17 (by assumption) ?ha17 ?hl17 ?hh17; (case hv17 => (intro w hSw; (try dsimp only at hSw); go_simp; (try simp only [run_eql_slice_nil _ 27 _ _ _ _ Try.underlying27, Result.andThen_ok]); (try with_reducible rfl))); (case ha17 => (simp only [Act.put, hq1, hq2, hq3, Option.isNone, Bool.not_true, Bool.not_false]; (try with_reducible rfl))); (case hl17 => (simp only [Act.put, hq1, hq2, hq3, Option.isNone, Bool.not_true, Bool.not_false]; (try with_reducible rfl))))); (first | (refine held_skip (i := 18) (a' := ?hA18) (l' := ?hL18) rfl (by kernel_rfl) (by kernel_rfl) (by kernel_rfl) (fun _ _ _ h => h) (by rfl) (by assumption) ?ha18 ?hl18 ?hh18; (case ha18 => (simp only [Act.put, hq1, hq2, hq3, Option.isNone, Bool.not_true, Bool.not_false]; (try with_reducible rfl))); (case hl18 => (simp only [Act.put, hq1, hq2, hq3, Option.isNone, Bool.not_true, Bool.not_false]; (try with_reducible rfl)))) | (refine held_take (i := 18) (v := ?hV18) (a' := ?hA18) (l' := ?hL18) rfl (by kernel_rfl) (by kernel_rfl) (by kernel_rfl) (fun _ _ _ h => h) (by rfl) ?hv18 (by assumption) ?ha18 ?hl18 ?hh18; (case hv18 => (intro w hSw; (try dsimp only at hSw); go_simp; (try simp only [run_eql_slice_nil _ 27 _ _ _ _ Try.underlying27, Result.andThen_ok]); (try with_reducible rfl))); (case ha18 => (simp only [Act.put, hq1, hq2, hq3, Option.isNone, Bool.not_true, Bool.not_false]; (try with_reducible rfl))); (case hl18 => (simp only [Act.put, hq1, hq2, hq3, Option.isNone, Bool.not_true, Bool.not_false]; (try with_reducible rfl))))); (first | (refine held_skip (i := 19) (a' := ?hA19) (l' := ?hL19) rfl (by kernel_rfl) (by kernel_rfl) (by kernel_rfl) (fun _ _ _ h => h) (by rfl) (by assumption) ?ha19 ?hl19 ?hh19; (case ha19 => (simp only [Act.put, hq1, hq2, hq3, Option.isNone, Bool.not_true, Bool.not_false]; (try with_reducible rfl))); (case hl19 => (simp only [Act.put, hq1, hq2, hq3, Option.isNone, Bool.not_true, Bool.not_false]; (try with_reducible rfl)))) | (refine held_take (i := 19) (v := ?hV19) (a' := ?hA19) (l' := ?hL19) rfl (by kernel_rfl) (by kernel_rfl) (by kernel_rfl) (fun _ _ _ h => h) (by rfl) ?hv19 (by assumption) ?ha19 ?hl19 ?hh19; (case hv19 => (intro w hSw; (try dsimp only at hSw); go_simp; (try simp only [run_eql_slice_nil _ 27 _ _ _ _ Try.underlying27, Result.andThen_ok]); (try with_reducible rfl))); (case ha19 => (simp only [Act.put, hq1, hq2, hq3, Option.isNone, Bool.not_true, Bool.not_false]; (try with_reducible rfl))); (case hl19 => (simp only [Act.put, hq1, hq2, hq3, Option.isNone, Bool.not_true, Bool.not_false]; (try with_reducible rfl))))); (first | (refine held_skip (i := 20) (a' := ?hA20) (l' := ?hL20) rfl (by kernel_rfl) (by kernel_rfl) (by kernel_rfl) (fun _ _ _ h => h) (by rfl) (by assumption) ?ha20 ?hl20 ?hh20; (case ha20 => (simp only [Act.put, hq1, hq2, hq3, Option.isNone, Bool.not_true, Bool.not_false]; (try with_reducible rfl))); (case hl20 => (simp only [Act.put, hq1, hq2, hq3, Option.isNone, Bool.not_true, Bool.not_false]; (try with_reducible rfl)))) | (refine held_take (i := 20) (v := ?hV20) (a' := ?hA20) (l' := ?hL20) rfl (by kernel_rfl) (by kernel_rfl) (by kernel_rfl) (fun _ _ _ h => h) (by rfl) ?hv20 (by assumption) ?ha20 ?hl20 ?hh20; (case hv20 => (intro w hSw; (try dsimp only at hSw); go_simp; (try simp only [run_eql_slice_nil _ 27 _ _ _ _ Try.underlying27, Result.andThen_ok]); (try with_reducible rfl))); (case ha20 => (simp only [Act.put, hq1, hq2, hq3, Option.isNone, Bool.not_true, Bool.not_false]; (try with_reducible rfl))); (case hl20 => (simp only [Act.put, hq1, hq2, hq3, Option.isNone, Bool.not_true, Bool.not_false]; (try with_reducible rfl))))); (first | (refine held_skip (i := 21) (a' := ?hA21) (l' := ?hL21) rfl (by kernel_rfl) (by kernel_rfl) (by kernel_rfl) (fun _ _ _ h => h) (by rfl) (by assumption) ?ha21 ?hl21 ?hh21; (case ha21 => (simp only [Act.put, hq1, hq2, hq3, Option.isNone, Bool.not_true, Bool.not_false]; (try with_reducible rfl))); (case hl21 => (simp only [Act.put, hq1, hq2, hq3, Option.isNone, Bool.not_true, Bool.not_false]; (try with_reducible rfl)))) | (refine held_take (i := 21) (v := ?hV21) (a' := ?hA21) (l' := ?hL21) rfl (by kernel_rfl) (by kernel_rfl) (by kernel_rfl) (fun _ _ _ h => h) (by rfl) ?hv21 (by assumption) ?ha21 ?hl21 ?hh21; (case hv21 => (intro w hSw; (try dsimp only at hSw); go_simp; (try simp only [run_eql_slice_nil _ 27 _ _ _ _ Try.underlying27, Result.andThen_ok]); (try with_reducible rfl))); (case ha21 => (simp only [Act.put, hq1, hq2, hq3, Option.isNone, Bool.not_true, Bool.not_false]; (try with_reducible rfl))); (case hl21 => (simp only [Act.put, hq1, hq2, hq3, Option.isNone, Bool.not_true, Bool.not_false]; (try with_reducible rfl))))))
            refine wpAnyH_done (by kernel_rfl) ?_ _
            go_wp2_with fail
            go_meet
            exact ⟨rfl, hf6⟩
          · cases b2
            all_goals
              go_region_held3 (fun w' => w'.cell? ⟨q, 0, none⟩ = some (.slice A1 n1 c1) ∧ w'.cell? ⟨q, 1, none⟩ = some (.slice A2 n2 c2) ∧ w'.cell? ⟨p, 2, none⟩ = some (.slice (some ad') n c') ∧ w'.cell? (ad'.add (i * 2)) = some (.slice B1 n3 c3) ∧ w'.cell? ⟨(ad'.add (i * 2)).block, (ad'.add (i * 2)).off + 1, none⟩ = some (.slice B2 n4 c4)) (first | exact HK.out _ HG.out | go_keep)
              (first
                | (go_at_call 65; (with_reducible refine (HE1.out _ HG.out).mono ?_); rintro e w6 ⟨rfl, hf6⟩; have HG := Lib.hid hf6; clear hf6)
                | (go_at_call 26; (with_reducible refine (HE2.out _ HG.out).mono ?_); rintro e w7 ⟨rfl, hf6⟩; have HG := Lib.hid hf6; clear hf6)
                | fail)
              all_goals
                go_wp2_with fail
                go_meet
                exact ⟨rfl, HG.out⟩
        case rest =>
          obtain ⟨rfl, HF6⟩ := hcut
          obtain ⟨v6, rfl⟩ : ∃ v6, v6 = wc := ⟨_, rfl⟩
          have HF7 : Hid (Fr W1 v6) := (HF.out.trans HF5.out).trans HF6.out
          obtain ⟨bb, hbb⟩ : ∃ bb, bb = (b1 && b2) := ⟨_, rfl⟩
          rw [← hbb] at HAB ⊢
          clear hbb
          cases bb with
          | true =>
            go_wp2_with fail
            go_roundw
            case rel => exact ⟨i + 1, by omega, by go_num, by rw [Hid, HS'.out, HAB.out]; simp, HF7⟩
            case measure => simp [intOf]; omega
          | false =>
            go_wp2_with fail
            go_ret
            exact ⟨retB (by rw [E2.out, HS'.out, HAB.out]; simp), HF1.out.trans HF7.out⟩
      · have HE : Hid (decide (xs = ys) = true) := by
          rw [Hid, HS.out, List.drop_eq_nil_of_le (by rw [Hx.out]; omega), List.drop_eq_nil_of_le (by rw [Hy.out]; omega)]; rfl
        go_wp2_with fail
        go_ret
        exact ⟨retB (by rw [E2.out, HE.out]), HF1.out.trans HF.out⟩
  · have EF : Hid (decide ((⟨B, K, xs⟩ : Sy) = ⟨B', K', ys⟩) = false) := by
      rw [Hid, decide_eq_false_iff_not]
      intro e
      injection e with e1 e2 e3
      exact hne ⟨e1, e2, by rw [← hx, ← hy, e3]⟩
    obtain ⟨t1, h1⟩ : ∃ t1, t1 = (B != B') := ⟨_, rfl⟩
    obtain ⟨t2, h2⟩ : ∃ t2, t2 = (K != K') := ⟨_, rfl⟩
    obtain ⟨t3, h3⟩ : ∃ t3, t3 = ((n : Int) != (n' : Int)) := ⟨_, rfl⟩
    have hb : t1 = true ∨ (t1 = false ∧ t2 = true) ∨ (t1 = false ∧ t2 = false ∧ t3 = true) := by
      subst h1 h2 h3
      simp only [bne_iff_ne, bne_eq_false_iff_eq, ne_eq]
      omega
    clear hne h h' hx hy E
    rcases hb with q1 | ⟨q1, q2⟩ | ⟨q1, q2, q3⟩
    all_goals
      rw [q1] at h1
      try rw [q2] at h2
      try rw [q3] at h3
      have e1 := h1.symm
      have e2 := h2.symm
      have e3 := h3.symm
      clear q1 h1 h2 h3
      go_enter Try.func21, Try.ntmps21
      go_wp2_with fail
      go_ret
      exact ⟨retB EF.out.symm, by (repeat' (first | exact Below.refl _ _ | refine below_drewN ?_ _ | refine Below.drew ?_ | refine frA ?_ _))⟩
end Go.Proofs.Ytnfjghldcopaaaa
namespace Go.Proofs.Ytnfjghldcopaaaa
open Go.RowKit
attribute [local irreducible] wpList

/-- How many blocks a row has. -/
def cntT (l : List Bool) : Nat := l.countP fun b => b
theorem cntT_snoc {l : List Bool} {t : Nat} {b : Bool} (h : l[t]? = some b) : cntT (l.take (t + 1)) = cntT (l.take t) + if b then 1 else 0 := by
  unfold cntT
  rw [take_snoc' h, List.countP_append]
  cases b <;> simp
theorem cntT_unit {r : Rw} {k : Nat} (h : r.fst = (k : Int)) : decide (cntT r.has = 1) = r.unit := by
  rcases idxF_spec true r.has with ⟨h1, _⟩ | ⟨j, h1, h2, h3⟩
  · unfold Rw.fst at h; omega
  · unfold Rw.fst at h
    obtain rfl : j = k := by omega
    unfold Rw.unit Rw.fst
    rw [h1, Int.toNat_natCast]
    have hj := (List.getElem?_eq_some_iff.1 h2).1
    have hsp : r.has = r.has.take j ++ (true :: r.has.drop (j + 1)) := by rw [← drop_cons h2, List.take_append_drop]
    have h0 : (r.has.take j).countP (fun b => b) = 0 := by
      rw [List.countP_eq_zero]
      intro b hb
      obtain ⟨i, hi, rfl⟩ := List.mem_iff_getElem.1 hb
      rw [List.length_take] at hi
      have := h3 i (by omega)
      rw [List.getElem?_eq_getElem (by omega)] at this
      simpa using this
    have hc : cntT r.has = 1 + (r.has.drop (j + 1)).countP (fun b => b) := by
      unfold cntT
      conv => lhs; rw [hsp]
      rw [List.countP_append, h0, List.countP_cons]
      simp; omega
    rw [hc, Bool.eq_iff_iff]
    simp only [decide_eq_true_eq, Bool.not_eq_true', decide_eq_false_iff_not]
    constructor
    · intro e hm
      have := (List.countP_pos_iff (p := fun b : Bool => b)).2 ⟨true, hm, rfl⟩
      omega
    · intro hm
      have : (r.has.drop (j + 1)).countP (fun b => b) = 0 := by
        rw [List.countP_eq_zero]
        intro b hb e
        exact hm (by rw [← (show b = true by simpa using e)]; exact hb)
      omega
theorem own_madeB {w : World} {base g n : Nat} (hb : base ≤ g) (h : w.heap[g]? = some (.cells (ca id (List.replicate n (Value.slice none 0 0))) 27 (0, 0))) (hm : n ≤ maxLen) :
    Own 1 eBlock w base 27 (.slice (some ⟨g, 0, none⟩) n n) (List.replicate n ([] : List UInt8)) := by
  refine ⟨List.replicate n (Value.slice none 0 0), ⟨by simp, .inr ⟨g, n, _, by simp, hb, h, by simp, hm, by simp [ca], by simp [ca]⟩⟩, fun i x hx => ?_⟩
  have hi : i < n := by have := (List.getElem?_eq_some_iff.1 hx).1; simpa using this
  obtain rfl : [] = x := by simpa [List.getElem?_replicate, hi] using hx
  exact ⟨none, 0, 0, by simp [List.getElem?_replicate, hi], ⟨by omega, by omega, by unfold maxLen; omega⟩, Sl.nil⟩

set_option maxRecDepth 100000 in
set_option maxHeartbeats 4000000 in
theorem refKnown_ok (w : World) (B K : Nat) (A : Option Addr) (n c : Nat) (rows : List Rw) (h : Sl 2 eRw w (LT w.heap.size) A n rows) (hB : 1 ≤ B ∧ B ≤ 24) (hK : 1 ≤ K ∧ K ≤ 16) (hs : Sys B K rows) :
    Calls Try.prog 24 #[.agg #[.int .i64 B, .int .i64 K, .slice A n c]] w fun e w' => ∃ g, e = .returned (.slice (some ⟨g, 0, none⟩) B B) ∧ Own 1 eBlock w' w.heap.size 27 (.slice (some ⟨g, 0, none⟩) B B) (knownF B rows) ∧ Fr w w' := by
  have hlen := h.1
  have hn24 : n ≤ 24 := by have := hs.card; omega
  obtain ⟨B1, B2⟩ := hB
  obtain ⟨K1, K2⟩ := hK
  have hmk := run_make_ca (P := Try.prog) (id : Value → Value) (.slice none 0 0) 35 27 24 Try.underlying35 infoNB rfl .i64 .i64 B (by omega) (by omega)
  have hBm : B ≤ maxLen := by unfold maxLen; omega
  obtain ⟨W1, hW1⟩ : ∃ W1, W1 = w.alloc (.cells #[.int .i64 B, .int .i64 K, .slice A n c] 24) := ⟨_, rfl⟩
  obtain ⟨W2, hW2⟩ : ∃ W2, W2 = W1.alloc (.cells (ca id (List.replicate B (.slice none 0 0))) 27) := ⟨_, rfl⟩
  have s1 : W1.heap.size = w.heap.size + 1 := by rw [hW1]; simp
  have s2 : W2.heap.size = w.heap.size + 2 := by rw [hW2]; simp [s1]
  obtain ⟨p1, hp1⟩ : ∃ p1, p1 = w.heap.size := ⟨_, rfl⟩
  obtain ⟨g, hg⟩ : ∃ g, g = w.heap.size + 1 := ⟨_, rfl⟩
  have HF2 : Hid (Fr w W2) := by rw [hW2, hW1]; exact (frAlloc _ _).trans (frAlloc _ _)
  have HB1 : Hid (W2.heap[p1]? = some (.cells #[.int .i64 B, .int .i64 K, .slice A n c] 24 (0, 0))) := by rw [hW2, hW1]; exact heap_old (heap_new hp1)
  have HO2 : Hid (Own 1 eBlock W2 (w.heap.size + 1) 27 (.slice (some ⟨g, 0, none⟩) B B) (List.replicate B [])) := by
    rw [hW2]; exact own_madeB (by omega) (heap_new (hg.trans s1.symm)) hBm
  have q1 : p1 < g := by omega
  have q2 : g < W2.heap.size := by omega
  have q3 : w.heap.size ≤ p1 := by omega
  (have H := Lib.hid h; clear h; have Hs := Lib.hid hs; clear hs; have Hlen := Lib.hid hlen; clear hlen; have HW1 := Lib.hid hW1; clear hW1; have HW2 := Lib.hid hW2; clear hW2; have Hp1 := Lib.hid hp1; clear hp1; have Hg := Lib.hid hg; clear hg)
  clear s1 s2
  go_enter Try.func24, Try.ntmps24
  go_wp2_with fail
  rw [← HW1.out, ← HW2.out, ← Hg.out, ← Hp1.out]
  clear hmk HW1 HW2
  go_loopw [15] (fun s15 wr => ∃ j : Nat, j ≤ n ∧ s15 = .int .i64 j ∧ Hid (Own 1 eBlock wr (w.heap.size + 1) 27 (.slice (some ⟨g, 0, none⟩) B B) ((rows.take j).foldl knownStep (List.replicate B []))) ∧ Hid (Chg (fun b => b = g) W2 wr)) (fun i _ => n - (intOf i).toNat)
  case atStart => exact ⟨0, Nat.zero_le _, rfl, HO2, Chg.refl _ _⟩
  case round =>
    obtain ⟨j, hj, rfl, HO, HC⟩ := hrel
    obtain ⟨wo, rfl⟩ : ∃ wo : World, wo = wr := ⟨_, rfl⟩
    by_cases hlt : j < n
    · have HWr : Hid (Fr w wo) := HC.out.fr HF2.out fun b hb => by rw [hb]; omega
      obtain ⟨ad, rfl, hE⟩ := (H.out.go sRw HWr.out).els (by omega)
      obtain ⟨o, ho, hr⟩ := hE.row hlt
      obtain ⟨A1, n1, c1, A2, n2, c2, ⟨m0, m1⟩, ⟨⟨e1, e2, e3⟩, ha⟩, ⟨⟨e4, e5, e6⟩, hd⟩⟩ := eRw_at hr
      have hom := List.mem_of_getElem? ho
      have hfo := Hs.out.fit o hom
      obtain rfl : n1 = B := ha.1.symm.trans hfo.1
      obtain rfl : n2 = K := hd.1.symm.trans hfo.2
      obtain ⟨kf, hkf, _, hkB⟩ := Hs.out.leads hom
      have HKF : Hid (idxF true o.has = (kf : Int)) := hkf
      have HCU := Lib.hid (cntT_unit hkf)
      have hst : Hid ((rows.take (j + 1)).foldl knownStep (List.replicate n1 []) = if o.unit then ((rows.take j).foldl knownStep (List.replicate n1 [])).set kf o.data else ((rows.take j).foldl knownStep (List.replicate n1 []))) := by
        rw [Hid, take_snoc' ho, List.foldl_append, List.foldl_cons, List.foldl_nil]
        unfold knownStep
        rw [hkf, Int.toNat_natCast]
      obtain ⟨X, hXe⟩ : ∃ X, X = (rows.take j).foldl knownStep (List.replicate n1 ([] : List UInt8)) := ⟨_, rfl⟩
      have hXl : X.length = n1 := by rw [hXe, length_foldKnown]; simp
      rw [← hXe] at hst HO
      obtain ⟨q, hq⟩ : ∃ q, q = wo.heap.size := ⟨_, rfl⟩
      obtain ⟨W5, hW5⟩ : ∃ W5, W5 = wo.alloc (.cells #[.slice A1 n1 c1, .slice A2 n2 c2] 29) := ⟨_, rfl⟩
      have hF5 : Fr wo W5 := by rw [hW5]; exact frAlloc _ _
      have HQ5 : Hid (W5.heap[q]? = some (.cells #[.slice A1 n1 c1, .slice A2 n2 c2] 29 (0, 0))) := by rw [hW5]; exact heap_new hq
      have HA5 := Lib.hid (ha.go sBool hF5)
      have hd0 := (H.out).els (show 0 < n by omega)
      have hDw : Sl 1 eByte w (LT w.heap.size) A2 n2 o.data := by
        obtain ⟨ad0, e0, hE0⟩ := hd0
        injection e0 with e0
        subst e0
        obtain ⟨o', ho', hr0⟩ := hE0.row hlt
        obtain rfl : o' = o := by rw [ho] at ho'; injection ho' with ho'; exact ho'.symm
        obtain ⟨A1', n1', c1', A2', n2', c2', ⟨m0', m1'⟩, _, ⟨_, hd'⟩⟩ := eRw_at hr0
        have hl0 : ad.block < w.heap.size := hE0.2.1
        have := (HWr.out.cell (p := ⟨(ad.add (j * 2)).block, (ad.add (j * 2)).off + 1, none⟩) (by show (ad.add (j * 2)).block < _; rw [block_of_add]; exact hl0)).trans m1'
        rw [m1] at this
        injection this with this
        injection this with t1 t2 t3
        rw [t1, t2]; exact hd'
      have HDW := Lib.hid hDw
      have HF5 := Lib.hid hF5
      have HW5 := Lib.hid hW5
      have HQ := Lib.hid hq
      have hgq : g < q := by have := HC.out.size; omega
      have hgo : g < wo.heap.size := by have := HC.out.size; omega
      (have Hfo := Lib.hid hfo; clear hfo; have HXe := Lib.hid hXe; clear hXe; have HXl := Lib.hid hXl; clear hXl)
      clear ho ha hd hr hE hom hkf hF5 hW5 hq hd0 hDw
      go_wp2_with fail
      rw [← HW5.out, ← HQ.out]
      clear m0 m1 HW5 HQ
      have hq5 := HQ5.out
      (obtain ⟨v0, v1⟩ := box2_ hq5)
      clear hq5
      go_wp2_with fail
      go_loop [6, 22] (fun s6 s22 => ∃ t : Nat, t ≤ n1 ∧ s22 = .int .i64 t ∧ s6 = .int .i64 ((cntT (o.has.take t) : Nat) : Int)) (fun _ t => n1 - (intOf t).toNat)
      case atStart => exact ⟨0, Nat.zero_le _, rfl, rfl⟩
      case round =>
        obtain ⟨t, ht, rfl, rfl⟩ := hrel
        have hcl : cntT (o.has.take t) ≤ t := by
          have := List.countP_le_length (p := fun b : Bool => b) (l := o.has.take t)
          rw [List.length_take] at this
          unfold cntT; omega
        obtain ⟨ct, hct⟩ : ∃ ct, ct = cntT (o.has.take t) := ⟨_, rfl⟩
        rw [← hct] at hcl ⊢
        by_cases htn : t < n1
        · obtain ⟨adb, rfl, hEb⟩ := HA5.out.els (by omega)
          obtain ⟨b, hb, hcb⟩ := hEb.bool htn
          have HS := Lib.hid (cntT_snoc hb)
          rw [← hct] at HS
          clear hEb hb hct
          cases b with
          | true =>
            go_wp2_with fail
            go_round
            case rel => exact ⟨t + 1, by omega, by go_num, by rw [HS.out, if_pos rfl]; go_num⟩
            case measure => simp [intOf]; omega
          | false =>
            go_wp2_with fail
            go_round
            case rel => exact ⟨t + 1, by omega, by go_num, by rw [HS.out, if_neg (by simp)]; rfl⟩
            case measure => simp [intOf]; omega
        · obtain rfl : t = n1 := by omega
          have hct2 : ct = cntT o.has := by rw [hct, List.take_of_length_le (by rw [Hfo.out.1]; exact Nat.le_refl _)]
          have HO5 := Lib.hid (HO.out.fr wBlock HF5.out)
          have HC5 : Hid (Chg (fun b => b = g) W2 W5) := HC.out.trans HF5.out.chg
          clear hct
          by_cases hone : ct = 1
          · have HU : Hid (o.unit = true) := by rw [Hid, ← HCU.out, ← hct2]; simpa using hone
            subst hone
            have CF : Hid (Calls Try.prog 62 #[.agg #[.slice A1 t c1, .slice A2 n2 c2]] W5.drew fun e w' => e = .returned (.int .i64 (kf : Int)) ∧ Fr W5 w') :=
              (firstOf_any W5.drew A1 A2 t c1 n2 c2 o.has (HA5.out.keep sBool fun _ _ => rfl) (by omega)).mono fun e w' ⟨h1, h2⟩ => ⟨by rw [h1, HKF.out], Fr.trans (Below.refl _ _).drew h2⟩
            have hg5 : g < W5.heap.size := Nat.lt_of_lt_of_le hgo HF5.out.size
            obtain ⟨g', cap', cs, rest, e1', hbg, hgh, _, _, hl, _, h1, _⟩ := own_row fSl (by decide) HO5.out (by rw [HXl.out]; exact B1)
            injection e1' with e1' e2' e3'
            injection e1' with e1'
            injection e1' with e1'
            subst e1' e3'
            have hcl' : cs.length = t := by rw [hl, HXl.out, Nat.mul_one]
            obtain ⟨cv, hcv⟩ : ∃ cv, cs[kf]? = some cv := ⟨_, List.getElem?_eq_getElem (by omega)⟩
            have M2 : Hid (W5.cell? ⟨g, kf, none⟩ = some cv) := cells_at hgh hcv
            have M3 : Hid (W5.frozen? ⟨g, kf, none⟩ = false) := blk_free hgh
            have hone' := h1 cv (List.mem_of_getElem? hcv)
            have NE : g ≠ q := by omega
            have hk1 : (0 : Int) ≤ (kf : Int) := by omega
            have hk2 : (kf : Int) < (t : Int) := by omega
            clear hct2 hgh hl h1 hcv hbg hcl' e2'
            go_wp2_with fail
            go_region_held3 (fun w' => w'.cell? ⟨q, 0, none⟩ = some (.slice A1 t c1) ∧ w'.cell? ⟨q, 1, none⟩ = some (.slice A2 n2 c2)) (first | exact ⟨v0, v1⟩ | exact box2_ HB7.out | exact ⟨(set1_farR NE).trans (box2_ HB7.out).1, (set1_farR NE).trans (box2_ HB7.out).2⟩ | go_keep)
              (first
                | (go_at_call 62; (with_reducible refine CF.out.mono ?_); rintro e w7 ⟨rfl, hf7⟩; have HB7 := Lib.hid (blk_go HQ5.out hf7); have HF7 := Lib.hid hf7; have n2' := (hf7.cell (p := ⟨g, kf, none⟩) hg5).trans M2.out; have n3' := (hf7.frozen (p := ⟨g, kf, none⟩) hg5).trans M3.out; have n4' : g < w7.heap.size := Nat.lt_of_lt_of_le hg5 hf7.size; clear hf7)
                | fail)
            all_goals
              have HO7 := HO5.out.fr wBlock HF7.out
              have HO8 : Hid (Own 1 eBlock (w7.setCell ⟨g, kf, none⟩ (.slice A2 n2 c2)) (w.heap.size + 1) 27 (.slice (some ⟨g, 0, none⟩) t t) (X.set kf o.data)) := by
                have := own_set (i := kf) (j := 0) (u := .slice A2 n2 c2) (x := o.data) wBlock fSl (by decide) HO7 hkB (by decide) rfl fun f hf => by
                  refine ⟨A2, n2, c2, by simp, ⟨e4, e5, e6⟩, (HDW.out.keep (w' := w7) sByte fun p hp => (HWr.out.trans (HF5.out.trans HF7.out)).cell hp).more sByte fun y hy => ?_⟩
                  have hy : y < w.heap.size := hy
                  have h1 := HWr.out.size
                  have h2 := HF5.out.size
                  have h3 := HF7.out.size
                  exact ⟨by omega, by omega⟩
                unfold Hid; simpa using this
              have HC8 : Hid (Chg (fun b => b = g) W2 (w7.setCell ⟨g, kf, none⟩ (.slice A2 n2 c2))) := Chg.set (S := fun b => b = g) (p := ⟨g, kf, none⟩) (HC5.out.trans HF7.out.chg) rfl _
              clear HO7 n2' n3' v0 v1
              go_wp2_with fail
              go_roundw
              case rel => exact ⟨j + 1, by omega, by go_num, by rw [hst.out, HU.out, if_pos rfl]; exact HO8, HC8⟩
              case measure => simp [intOf]; omega
          · have HU : Hid (o.unit = false) := by rw [Hid, ← HCU.out, ← hct2]; simpa using hone
            have hb1 : ((ct : Int) == 1) = false := by rw [beq_eq_false_iff_ne]; omega
            clear hct2 v0 v1
            go_wp2_with fail
            go_roundw
            case rel => exact ⟨j + 1, by omega, by go_num, by rw [hst.out, HU.out, if_neg (by simp)]; exact HO5, HC5⟩
            case measure => simp [intOf]; omega
    · obtain rfl : j = n := by omega
      rw [List.take_of_length_le (by rw [Hlen.out]; exact Nat.le_refl _)] at HO
      have HWr : Hid (Fr w wo) := HC.out.fr HF2.out fun b hb => by rw [hb]; omega
      go_wp2_with fail
      go_ret
      exact ⟨g, rfl, HO.out.lower (by omega), HWr.out⟩
end Go.Proofs.Ytnfjghldcopaaaa
namespace Go.Proofs.Ytnfjghldcopaaaa
open Go.RowKit
attribute [local irreducible] wpList

set_option maxRecDepth 100000 in
set_option maxHeartbeats 1000000 in
theorem refCheckSys_any (w : World) (B K : Int) (A : Option Addr) (n c : Nat) (rows : List Rw) (h : Sl 2 eRw w (LT w.heap.size) A n rows) (hm : n ≤ lim) :
    Calls Try.prog 17 #[.agg #[.int .i64 B, .int .i64 K, .slice A n c]] w fun e w' => e = .returned (.int .i64 (sysCheck B K rows)) ∧ Fr w w' := by
  unfold lim at hm
  by_cases hB : 1 ≤ B ∧ B ≤ 24
  · by_cases hK : 1 ≤ K ∧ K ≤ 16
    · by_cases hn : (n : Int) ≤ B
      · exact refCheckSys_good w B K A n c rows h hB hK hn
      · have r1 : inR B 1 24 = true := inR_t hB
        have r2 : inR K 1 16 = true := inR_t hK
        have E : Hid (sysCheck B K rows = 2) := by
          unfold sysCheck Hid
          rw [if_neg (by omega), if_pos (by rw [h.1]; omega)]
        have e1 : decide (B < (n : Int)) = true := by simp; omega
        clear h hn hB hK
        go_enter Try.func17, Try.ntmps17
        go_wp2_with (first | (go_at_call 61; (with_reducible refine (in_val _ _ _ _ _ r1).mono ?_); rintro e w' ⟨rfl, rfl⟩) | (go_at_call 61; (with_reducible refine (in_val _ _ _ _ _ r2).mono ?_); rintro e w' ⟨rfl, rfl⟩))
        go_ret
        exact ⟨retI E.out.symm, by (repeat' (first | exact Below.refl _ _ | refine below_drewN ?_ _ | refine Below.drew ?_ | refine frA ?_ _))⟩
    · have r1 : inR B 1 24 = true := inR_t hB
      have r2 : inR K 1 16 = false := inR_f hK
      have E : Hid (sysCheck B K rows = 3) := by
        unfold sysCheck Hid
        rw [if_pos (by omega)]
      clear h hB hK
      go_enter Try.func17, Try.ntmps17
      go_wp2_with (first | (go_at_call 61; (with_reducible refine (in_val _ _ _ _ _ r1).mono ?_); rintro e w' ⟨rfl, rfl⟩) | (go_at_call 61; (with_reducible refine (in_val _ _ _ _ _ r2).mono ?_); rintro e w' ⟨rfl, rfl⟩))
      go_ret
      exact ⟨retI E.out.symm, by (repeat' (first | exact Below.refl _ _ | refine below_drewN ?_ _ | refine Below.drew ?_ | refine frA ?_ _))⟩
  · have r1 : inR B 1 24 = false := inR_f hB
    have E : Hid (sysCheck B K rows = 3) := by
      unfold sysCheck Hid
      rw [if_pos (by omega)]
    clear h hB
    go_enter Try.func17, Try.ntmps17
    go_wp2_with (go_at_call 61; (with_reducible refine (in_val _ _ _ _ _ r1).mono ?_); rintro e w' ⟨rfl, rfl⟩)
    go_ret
    exact ⟨retI E.out.symm, by (repeat' (first | exact Below.refl _ _ | refine below_drewN ?_ _ | refine Below.drew ?_ | refine frA ?_ _))⟩

set_option maxRecDepth 100000 in
set_option maxHeartbeats 1000000 in
theorem refAdd_any (w : World) (B K : Int) (A : Option Addr) (n c : Nat) (rows : List Rw) (h : Sl 2 eRw w (LT w.heap.size) A n rows) (h0 : sysCheck B K rows = 0) (r : Rw) (A1 A2 : Option Addr) (n1 c1 n2 c2 : Nat)
    (ha : Sl 1 eBool w (LT w.heap.size) A1 n1 r.has) (hd : Sl 1 eByte w (LT w.heap.size) A2 n2 r.data) (hc1 : n1 ≤ c1 ∧ c1 ≤ maxLen) (hc2 : n2 ≤ c2 ∧ c2 ≤ maxLen) :
    Calls Try.prog 22 #[.agg #[.int .i64 B, .int .i64 K, .slice A n c], .agg #[.slice A1 n1 c1, .slice A2 n2 c2]] w (RAddPost w (sysAdd ⟨B, K, rows⟩ r)) := by
  obtain ⟨⟨b1, b2⟩, ⟨k1, k2⟩, _, hR⟩ := sysCheck_ok h0
  obtain ⟨b, rfl⟩ := Int.eq_ofNat_of_zero_le (show 0 ≤ B by omega)
  obtain ⟨k, rfl⟩ := Int.eq_ofNat_of_zero_le (show 0 ≤ K by omega)
  by_cases hne : n1 = b ∧ n2 = k
  · obtain ⟨rfl, rfl⟩ := hne
    exact refAdd_good w n1 n2 A n c rows h ⟨by omega, by omega⟩ ⟨by omega, by omega⟩ (rowsOk_sys hR) r A1 A2 c1 c2 ⟨ha.1, hd.1⟩ ha hd hc1 hc2
  · have E : Hid (sysAdd ⟨b, k, rows⟩ r = (Sy.none, false, 4)) := by
      unfold sysAdd Hid
      rw [if_neg (by simp [h0]), if_pos (by rw [ha.1, hd.1]; simp only; omega)]
    rw [E.out]
    obtain ⟨t1, h1⟩ : ∃ t1, t1 = ((n1 : Int) != (b : Int)) := ⟨_, rfl⟩
    obtain ⟨t2, h2⟩ : ∃ t2, t2 = ((n2 : Int) != (k : Int)) := ⟨_, rfl⟩
    have hb : t1 = true ∨ (t1 = false ∧ t2 = true) := by
      subst h1 h2
      simp only [bne_iff_ne, bne_eq_false_iff_eq, ne_eq]
      omega
    clear hne h ha hd hR h0 E
    rcases hb with q1 | ⟨q1, q2⟩
    all_goals
      rw [q1] at h1
      try rw [q2] at h2
      have e1 := h1.symm
      have e2 := h2.symm
      clear q1 h1 h2
      go_enter Try.func22, Try.ntmps22
      go_wp2_with fail
      refine bodyPost_ret (v := .tuple #[.agg #[.int .i64 0, .int .i64 0, .slice none 0 0], .bool false, .int .i64 4]) ?_ rfl ?_
      · simp [results, Try.results22, go_sem]
      · exact ⟨none, 0, 0, rfl, ⟨by omega, by omega, by unfold maxLen; omega⟩, Sl.nil, by (repeat' (first | exact Below.refl _ _ | refine below_drewN ?_ _ | refine Below.drew ?_ | refine frA ?_ _))⟩
end Go.Proofs.Ytnfjghldcopaaaa
namespace Go.Proofs.Ytnfjghldcopaaaa
open Go.RowKit

/-- A function value that tells whether two blocks are alike. -/
def SaysEq (P : Program) (f : FuncId) : Prop := ∀ (W : World) (S T : Nat → Prop) (A A' : Option Addr) (n c n' c' : Nat) (xs ys : List UInt8), Sl 1 eByte W S A n xs → Sl 1 eByte W T A' n' ys → n ≤ maxLen →
  Calls P f #[.slice A n c, .slice A' n' c'] W fun e w' => e = .returned (.bool (decide (xs = ys))) ∧ ∃ m, w' = W.drewN m

set_option maxHeartbeats 400000 in
theorem equalFuncBlock_any (w : World) (f : FuncId) (hcf : ∀ (args : Array Value) (W : World), (callFunc f args).run Try.prog W = .ok (.enter f args) W) (hfn : SaysEq Try.prog f) (S T : Nat → Prop) (A A' : Option Addr) (n c n' c' : Nat) (xs ys : List (List UInt8)) (h : Sl 1 eBlock w S A n xs) (h' : Sl 1 eBlock w T A' n' ys) (hm : n ≤ maxLen) :
    Calls Try.prog 23 #[.slice A n c, .slice A' n' c', .func (.func f) #[] #[]] w fun e w' => e = .returned (.bool (decide (xs = ys))) ∧ ∃ m, w' = w.drewN m := by
  unfold maxLen at hm
  have H := Lib.hid h
  have H' := Lib.hid h'
  have HFN := Lib.hid hfn
  clear h h' hfn
  by_cases hn : n = n'
  · have hne : ((n : Int) != (n' : Int)) = false := by simp [hn]
    have HN : Hid (n = n') := hn
    clear hn
    go_enter Try.func23, Try.ntmps23
    go_wp2_with fail
    go_loopw [17] (fun i wr => ∃ k m : Nat, k ≤ n ∧ i = .int .i64 k ∧ wr = w.drewN m ∧ Hid (decide (xs = ys) = decide (xs.drop k = ys.drop k))) (fun i _ => n - (intOf i).toNat)
    case atStart => exact ⟨0, 0, Nat.zero_le _, rfl, rfl, rfl⟩
    case round =>
      obtain ⟨k, m, hk, rfl, rfl, HS⟩ := hrel
      by_cases hlt : k < n
      · have hlt' : k < n' := HN.out ▸ hlt
        obtain ⟨ad, rfl, hE⟩ := H.out.els (by omega)
        obtain ⟨ad', rfl, hE'⟩ := H'.out.els (by omega)
        obtain ⟨A1, n1, c1, a, ha, hca, hl1, hs1⟩ := hE.block hlt
        obtain ⟨A2, n2, c2, b, hb, hcb, hl2, hs2⟩ := hE'.block hlt'
        have HS' : Hid (decide (xs = ys) = (decide (a = b) && decide (xs.drop (k + 1) = ys.drop (k + 1)))) := drop_eq_cons ha hb HS.out
        clear HS ha hb
        (have Hs1 := Lib.hid hs1; clear hs1; have Hs2 := Lib.hid hs2; clear hs2)
        go_wp2_with fail
        refine (HFN.out (w.drewN m) S T _ _ _ _ _ _ _ _ (Hs1.out.keep sByte (fun _ _ => rfl)) (Hs2.out.keep sByte (fun _ _ => rfl)) (by unfold maxLen; unfold lim at hl1; omega)).mono ?_
        rintro e w1 ⟨rfl, m1, rfl⟩
        by_cases hab : a = b
        · have hd : decide (a = b) = true := decide_eq_true hab
          clear hab
          go_wp2_with fail
          go_roundw
          case rel => exact ⟨k + 1, _, by omega, by go_num, rfl, by rw [Hid, HS'.out, hd]; simp⟩
          case measure => simp [intOf]; omega
        · have hd : decide (a = b) = false := decide_eq_false hab
          clear hab
          go_wp2_with fail
          go_ret
          exact ⟨retB (by rw [HS'.out, hd]; simp), _, rfl⟩
      · have HF : Hid (decide (xs = ys) = true) := by
          have h1 := H.out.1
          have h2 := H'.out.1
          rw [Hid, HS.out, List.drop_eq_nil_of_le (by omega), List.drop_eq_nil_of_le (by have := HN.out; omega)]; rfl
        go_wp2_with fail
        go_ret
        exact ⟨retB HF.out.symm, _, rfl⟩
  · have hne : ((n : Int) != (n' : Int)) = true := by rw [bne_iff_ne]; omega
    have HF : Hid (decide (xs = ys) = false) := by
      rw [Hid, decide_eq_false_iff_not]; rintro rfl; exact hn (H.out.1.symm.trans H'.out.1)
    go_enter Try.func23, Try.ntmps23
    go_wp2_with fail
    go_ret
    exact ⟨retB HF.out.symm, 0, rfl⟩

end Go.Proofs.Ytnfjghldcopaaaa
namespace Go.Proofs.Ytnfjghldcopaaaa
open Go.RowKit
attribute [local irreducible] wpList

theorem solKnown_any (w : World) (B K : Int) (wB : wfI B) (wK : wfI K) (A : Option Addr) (n c : Nat) (rows : List Rw) (h : Sl 2 eRw w (LT w.heap.size) A n rows) (hm : n ≤ maxLen) (ck : Int) (hck : sysCheck B K rows = ck) :
    Calls Try.prog 16 #[.agg #[.int .i64 B, .int .i64 K, .slice A n c]] w fun e w' => ∃ Al nl cl, e = .returned (.tuple #[.slice Al nl cl, .int .i64 ck]) ∧ nl ≤ 24 ∧ (ck ≠ 0 → nl = 0) ∧ Sl 1 eBlock w' (LT w'.heap.size) Al nl (sysKnown ⟨B, K, rows⟩).1 ∧ Fr w w' := by
  subst hck
  by_cases h0 : sysCheck B K rows = 0
  · obtain ⟨⟨b1, b2⟩, _⟩ := sysCheck_ok h0
    obtain ⟨b, rfl⟩ := Int.eq_ofNat_of_zero_le (show 0 ≤ B by omega)
    refine (solKnown_eq w b K A n c rows h h0).mono ?_
    rintro e w' ⟨g, m, rfl, hm1, hm2, hs, hf⟩
    refine ⟨_, m, m, by rw [h0], hm2, fun e => absurd h0 e, ?_, hf⟩
    have : (sysKnown ⟨b, K, rows⟩).1 = knownF m rows := by
      unfold sysKnown
      rw [if_neg (by simpa using h0)]
      have : m = b := by omega
      rw [this]; simp
    rw [this]
    exact hs.nb
  · refine (solKnown_bad w B K wB wK A n c rows h hm h0).mono ?_
    rintro e w' ⟨rfl, hf⟩
    refine ⟨none, 0, 0, rfl, by omega, fun _ => rfl, ?_, hf⟩
    have : (sysKnown ⟨B, K, rows⟩).1 = [] := by
      unfold sysKnown
      rw [if_pos h0]
    rw [this]
    exact Sl.nil
theorem refSame_lit (w : World) (B K B' K' : Int) (A A' : Option Addr) (n c n' c' : Nat) (xs ys : List Rw) (b : Bool) (E : decide ((⟨B, K, xs⟩ : Sy) = ⟨B', K', ys⟩) = b) (h : Sl 2 eRw w (LT w.heap.size) A n xs) (h' : Sl 2 eRw w (LT w.heap.size) A' n' ys) (hm : n ≤ lim) :
    Calls Try.prog 21 #[.agg #[.int .i64 B, .int .i64 K, .slice A n c], .agg #[.int .i64 B', .int .i64 K', .slice A' n' c']] w fun e w' => e = .returned (.bool b) ∧ Fr w w' :=
  (refSame_any w B K B' K' A A' n c n' c' xs ys h h' hm).mono fun e w' ⟨h1, h2⟩ => ⟨by rw [h1, E], h2⟩
theorem sysSame_lit (w : World) (B K B' K' : Int) (A A' : Option Addr) (n c n' c' : Nat) (xs ys : List Rw) (b : Bool) (E : decide ((⟨B, K, xs⟩ : Sy) = ⟨B', K', ys⟩) = b) (h : Sl 2 eRw w (LT w.heap.size) A n xs) (h' : Sl 2 eRw w (LT w.heap.size) A' n' ys) (hm : n ≤ maxLen) :
    Calls Try.prog 20 #[.agg #[.int .i64 B, .int .i64 K, .slice A n c], .agg #[.int .i64 B', .int .i64 K', .slice A' n' c']] w fun e w' => e = .returned (.bool b) ∧ Fr w w' :=
  (sysSame_any w B K B' K' A A' n c n' c' xs ys h h' hm).mono fun e w' ⟨h1, h2⟩ => ⟨by rw [h1, E], h2⟩

/-- The function value that tells whether two blocks are alike. -/
theorem sayBlocks_any : SaysEq Try.prog 25 := by
  intro W S T A A' n c n' c' xs ys h h' hm
  have H := Lib.hid h
  have H' := Lib.hid h'
  clear h h'
  go_enter Try.func25, Try.ntmps25
  go_wp2_with fail
  (with_reducible refine (equalBlock_any _ _ _ _ _ _ _ _ _ xs ys H.out H'.out hm).mono ?_)
  rintro e w1 ⟨rfl, m, rfl⟩
  go_wp2_with fail
  go_ret
  exact ⟨rfl, m, rfl⟩
theorem refKnown_any (w : World) (B K : Int) (A : Option Addr) (n c : Nat) (rows : List Rw) (h : Sl 2 eRw w (LT w.heap.size) A n rows) (h0 : sysCheck B K rows = 0) :
    Calls Try.prog 24 #[.agg #[.int .i64 B, .int .i64 K, .slice A n c]] w fun e w' => ∃ g m, e = .returned (.slice (some ⟨g, 0, none⟩) m m) ∧ Sl 1 eBlock w' (LT w'.heap.size) (some ⟨g, 0, none⟩) m (sysKnown ⟨B, K, rows⟩).1 ∧ Fr w w' := by
  obtain ⟨⟨b1, b2⟩, ⟨k1, k2⟩, _, hR⟩ := sysCheck_ok h0
  obtain ⟨b, rfl⟩ := Int.eq_ofNat_of_zero_le (show 0 ≤ B by omega)
  obtain ⟨k, rfl⟩ := Int.eq_ofNat_of_zero_le (show 0 ≤ K by omega)
  refine (refKnown_ok w b k A n c rows h ⟨by omega, by omega⟩ ⟨by omega, by omega⟩ (rowsOk_sys hR)).mono ?_
  rintro e w' ⟨g, rfl, ho, hf⟩
  have hl : (knownF b rows).length = b := by unfold knownF; rw [length_foldKnown]; simp
  obtain ⟨A', c', e1, _, hs⟩ := ho.slC wBlock (by decide)
  injection e1 with e1 e2 e3
  subst e1
  rw [hl] at hs
  have e4 : (sysKnown ⟨b, k, rows⟩).1 = knownF b rows := by
    unfold sysKnown
    rw [if_neg (by simpa using h0)]; simp
  exact ⟨g, b, rfl, by rw [e4]; exact hs, hf⟩

set_option maxRecDepth 100000 in
set_option maxHeartbeats 4000000 in
theorem solveSays_walk (w : World) (B K : Int) (wB : wfI B) (wK : wfI K) (A : Option Addr) (n c : Nat) (rows : List Rw) (h : Sl 2 eRw w (LT w.heap.size) A n rows) (hnl : n ≤ lim) (r : Rw) (A1 A2 : Option Addr) (n1 c1 n2 c2 : Nat)
    (ha : Sl 1 eBool w (LT w.heap.size) A1 n1 r.has) (hd : Sl 1 eByte w (LT w.heap.size) A2 n2 r.data) (hc1 : n1 ≤ c1 ∧ c1 ≤ maxLen) (hc2 : n2 ≤ c2 ∧ c2 ≤ maxLen)
    (B' K' : Int) (A3 : Option Addr) (n3 c3 : Nat) (rows' : List Rw) (h' : Sl 2 eRw w (LT w.heap.size) A3 n3 rows') (many long : Int) (wm : wfI many) (wl : wfI long) :
    Calls Try.prog 3 #[.agg #[.int .i64 B, .int .i64 K, .slice A n c], .agg #[.slice A1 n1 c1, .slice A2 n2 c2], .agg #[.int .i64 B', .int .i64 K', .slice A3 n3 c3], .int .i64 many, .int .i64 long] w fun e w' => e = .returned (.bool true) ∧ Fr w w' := by
  have hnm : n ≤ maxLen := by unfold lim at hnl; unfold maxLen; omega
  obtain ⟨ck, hck⟩ : ∃ ck, ck = sysCheck B K rows := ⟨_, rfl⟩
  obtain ⟨wv, hwv⟩ : ∃ wv, wv = sysCheck many long [] := ⟨_, rfl⟩
  obtain ⟨nb, nk, hN⟩ : ∃ nb nk, sysNew many long = (⟨nb, nk, []⟩, wv) := by
    unfold sysNew
    rw [← hwv]
    by_cases h0 : wv = 0
    · exact ⟨many, long, by rw [if_neg (by simpa using h0), h0]⟩
    · exact ⟨0, 0, by rw [if_pos h0]; rfl⟩
  have HNW : Hid ((wv ≠ 0 → nb = 0 ∧ nk = 0) ∧ (wv = 0 → nb = many ∧ nk = long)) := by
    unfold sysNew at hN
    rw [← hwv] at hN
    refine ⟨fun h0 => ?_, fun h0 => ?_⟩
    · rw [if_pos h0] at hN
      injection hN with h1 _
      injection h1 with h1 h2
      exact ⟨h1.symm, h2.symm⟩
    · rw [if_neg (by simpa using h0)] at hN
      injection hN with h1 _
      injection h1 with h1 h2
      exact ⟨h1.symm, h2.symm⟩
  have CN : Hid (∀ W, Calls Try.prog 14 #[.int .i64 many, .int .i64 long] W fun e w' => e = .returned (.tuple #[.agg #[.int .i64 nb, .int .i64 nk, .slice none 0 0], .int .i64 wv]) ∧ Fr W w') := fun W => by
    have := solNew_any W many long wm wl
    rw [hN] at this; exact this
  obtain ⟨rb, rk, rr, more, er, hR⟩ : ∃ rb rk rr more er, sysAdd ⟨B, K, rows⟩ r = (⟨rb, rk, rr⟩, more, er) := ⟨_, _, _, _, _, rfl⟩
  obtain ⟨sm, hsm⟩ : ∃ sm, sm = decide ((⟨B, K, rows⟩ : Sy) = ⟨B', K', rows'⟩) := ⟨_, rfl⟩
  (have H := Lib.hid h; clear h; have Ha := Lib.hid ha; clear ha; have Hd := Lib.hid hd; clear hd; have H' := Lib.hid h'; clear h'; have Hck := Lib.hid hck; clear hck; have Hwv := Lib.hid hwv; clear hwv; have HN := Lib.hid hN; clear hN; have HR := Lib.hid hR; clear hR; have Hsm := Lib.hid hsm; clear hsm; have Hc1 := Lib.hid hc1; clear hc1; have Hc2 := Lib.hid hc2; clear hc2)
  go_enter Try.func3, Try.ntmps3
  go_wp2_with fail
  (with_reducible refine (CN.out _).mono ?_)
  rintro e v1 ⟨rfl, hf⟩
  have HP5 : Hid (v1.heap[w.heap.size]? = some (.cells #[.int .i64 B, .int .i64 K, .slice A n c] 24 (0, 0))) := blk_go (by (repeat' (with_reducible (first | (refine heap_new ?_; (first | (simp; done) | rfl); done) | refine heap_dn ?_ | refine heap_d ?_ | refine heap_old ?_)))) hf
  have HP6 : Hid (v1.heap[w.heap.size + 1]? = some (.cells #[.slice A1 n1 c1, .slice A2 n2 c2] 29 (0, 0))) := blk_go (by (repeat' (with_reducible (first | (refine heap_new ?_; (first | (simp; done) | rfl); done) | refine heap_dn ?_ | refine heap_d ?_ | refine heap_old ?_)))) hf
  have HP7 : Hid (v1.heap[w.heap.size + 1 + 1]? = some (.cells #[.int .i64 B', .int .i64 K', .slice A3 n3 c3] 24 (0, 0))) := blk_go (by (repeat' (with_reducible (first | (refine heap_new ?_; (first | (simp; done) | rfl); done) | refine heap_dn ?_ | refine heap_d ?_ | refine heap_old ?_)))) hf
  have HF1 : Hid (Fr w v1) := Fr.trans (by (repeat' (first | exact Below.refl _ _ | refine below_drewN ?_ _ | refine Below.drew ?_ | refine frA ?_ _))) hf
  clear hf
  obtain ⟨p5, hp5⟩ : ∃ p5, p5 = w.heap.size := ⟨_, rfl⟩
  obtain ⟨p6, hp6⟩ : ∃ p6, p6 = w.heap.size + 1 := ⟨_, rfl⟩
  obtain ⟨p7, hp7⟩ : ∃ p7, p7 = w.heap.size + 1 + 1 := ⟨_, rfl⟩
  rw [← hp7] at HP7 ⊢
  rw [← hp6] at HP6 ⊢
  rw [← hp5] at HP5 ⊢
  have l5 : w.heap.size ≤ p5 := by omega
  clear hp5 hp6 hp7
  have b5 := HP5.out
  have b6 := HP6.out
  (obtain ⟨x0, x1, x2⟩ := box3_ b5)
  (obtain ⟨y0, y1⟩ := box2_ b6)
  have i5 := (Array.getElem?_eq_some_iff.1 b5).1
  have i6 := (Array.getElem?_eq_some_iff.1 b6).1
  clear b5 b6
  obtain ⟨q11, hq11⟩ : ∃ q11, q11 = v1.heap.size := ⟨_, rfl⟩
  obtain ⟨V1, hV1⟩ : ∃ V1, V1 = v1.alloc (.cells #[.int .i64 nb, .int .i64 nk, .slice none 0 0] 24) := ⟨_, rfl⟩
  have HFV1 : Hid (Fr v1 V1) := by rw [hV1]; exact frAlloc _ _
  have HQ11 : Hid (V1.heap[q11]? = some (.cells #[.int .i64 nb, .int .i64 nk, .slice none 0 0] 24 (0, 0))) := by rw [hV1]; exact heap_new hq11
  have HV1 := Lib.hid hV1
  have HQE := Lib.hid hq11
  clear hV1 hq11
  go_wp2_with fail
  rw [← HV1.out, ← HQE.out]
  have HFw1 : Hid (Fr w V1) := HF1.out.trans HFV1.out
  have CA : Hid (Calls Try.prog 15 #[.agg #[.int .i64 B, .int .i64 K, .slice A n c], .agg #[.slice A1 n1 c1, .slice A2 n2 c2]] V1 fun e w' => ∃ Aa na ca, e = .returned (.tuple #[.agg #[.int .i64 rb, .int .i64 rk, .slice Aa na ca], .bool more, .int .i64 er]) ∧ na ≤ 24 ∧ Sl 2 eRw w' (LT w'.heap.size) Aa na rr ∧ Fr V1 w') := by
    refine (solAdd_any V1 B K wB wK A n c rows (H.out.go sRw HFw1.out) hnm r A1 A2 n1 c1 n2 c2 (Ha.out.go sBool HFw1.out) (Hd.out.go sByte HFw1.out)).mono ?_
    rw [HR.out]
    rintro e w' ⟨Aa, na, ca, rfl, ⟨h1, _⟩, hs, hf⟩
    exact ⟨Aa, na, ca, rfl, h1, hs.nw sRw, hf⟩
  clear x0 x1 x2 y0 y1
  (with_reducible refine (CA.out).mono ?_)
  rintro e v2 ⟨Aa, na, ca, rfl, hna, hsa, hf⟩
  obtain ⟨q13, hq13⟩ : ∃ q13, q13 = v2.heap.size := ⟨_, rfl⟩
  obtain ⟨V2, hV2⟩ : ∃ V2, V2 = v2.alloc (.cells #[.int .i64 rb, .int .i64 rk, .slice Aa na ca] 24) := ⟨_, rfl⟩
  have HFV2 : Hid (Fr v2 V2) := by rw [hV2]; exact frAlloc _ _
  have HQ13 : Hid (V2.heap[q13]? = some (.cells #[.int .i64 rb, .int .i64 rk, .slice Aa na ca] 24 (0, 0))) := by rw [hV2]; exact heap_new hq13
  have HSA := Lib.hid (hsa.go sRw HFV2.out)
  have HF12 : Hid (Fr V1 V2) := hf.trans HFV2.out
  have HFw2 : Hid (Fr w V2) := HFw1.out.trans HF12.out
  have HV2 := Lib.hid hV2
  have HQE2 := Lib.hid hq13
  have HP5b := Lib.hid (blk_go HP5.out (HFV1.out.trans hf))
  have b5 := HP5b.out
  (obtain ⟨x0, x1, x2⟩ := box3_ b5)
  have i5 := (Array.getElem?_eq_some_iff.1 b5).1
  clear hV2 hq13 hf hsa b5
  go_wp2_with fail
  rw [← HV2.out, ← HQE2.out]
  clear x0 x1 x2 i5
  (with_reducible refine (solKnown_any _ _ _ wB wK _ _ _ rows (H.out.go sRw HFw2.out) hnm ck Hck.out.symm).mono ?_)
  rintro e v3 ⟨Al, nl, cl, rfl, hnl24, hnl0, hsl, hf⟩
  have HF23 : Hid (Fr V2 v3) := hf
  have HFw3 : Hid (Fr w v3) := HFw2.out.trans hf
  have HP5c := Lib.hid (blk_go HP5b.out (HFV2.out.trans hf))
  have b5 := HP5c.out
  (obtain ⟨x0, x1, x2⟩ := box3_ b5)
  have HSL := Lib.hid hsl
  have HNL0 := Lib.hid hnl0
  clear hf hsl b5 hnl0
  go_wp2_with fail
  (with_reducible refine (refCheckSys_any _ _ _ _ _ _ rows (H.out.go sRw HFw3.out) hnl).mono ?_)
  rw [← Hck.out]
  rintro e v4 ⟨rfl, hf⟩
  have HF34 : Hid (Fr v3 v4) := hf
  clear hf x0 x1 x2
  obtain ⟨q19, hq19⟩ : ∃ q19, q19 = v4.heap.size := ⟨_, rfl⟩
  obtain ⟨V4, hV4⟩ : ∃ V4, V4 = v4.alloc (.cells #[.int .i64 many, .int .i64 long, .slice none 0 0] 24) := ⟨_, rfl⟩
  have HFV4 : Hid (Fr v4 V4) := by rw [hV4]; exact frAlloc _ _
  have HQ19 : Hid (V4.heap[q19]? = some (.cells #[.int .i64 many, .int .i64 long, .slice none 0 0] 24 (0, 0))) := by rw [hV4]; exact heap_new hq19
  have HV4 := Lib.hid hV4
  have HQE4 := Lib.hid hq19
  clear hV4 hq19
  go_wp2_with fail
  rw [← HV4.out, ← HQE4.out]
  have h0lim : 0 ≤ lim := Nat.zero_le _
  (with_reducible refine (refCheckSys_any _ many long none 0 0 [] Sl.nil h0lim).mono ?_)
  rw [← Hwv.out]
  rintro e v5 ⟨rfl, hf⟩
  have HF35 : Hid (Fr v3 v5) := HF34.out.trans (HFV4.out.trans hf)
  have HQ19b := Lib.hid (blk_go HQ19.out hf)
  have b19 := HQ19b.out
  (obtain ⟨z0, z1, z2⟩ := box3_ b19)
  have z3 := blk_free (i := 0) b19
  have z4 := blk_free (i := 1) b19
  have z5 := blk_free (i := 2) b19
  have i19 := (Array.getElem?_eq_some_iff.1 b19).1
  have hq4 : v4.heap.size ≤ q19 := by rw [HQE4.out]; exact Nat.le_refl _
  clear hf b19
  go_upto_if 50 with fail
  go_cut [] (fun wx => Hid (wx.heap[q19]? = some (.cells #[.int .i64 nb, .int .i64 nk, .slice none 0 0] 24 (0, 0))) ∧ Hid (Chg (fun y => y = q19) v5 wx))
  case first =>
    by_cases h0 : wv = 0
    · have e1 : (wv != 0) = false := by simp [h0]
      obtain ⟨rfl, rfl⟩ := HNW.out.2 h0
      clear h0
      go_wp2_with fail
      go_meet
      exact ⟨HQ19b, Chg.refl _ _⟩
    · have e1 : (wv != 0) = true := by simp [h0]
      obtain ⟨rfl, rfl⟩ := HNW.out.1 h0
      clear h0
      have HST := Lib.hid (stor3_ (v0 := .int .i64 0) (v1 := .int .i64 0) (v2 := .slice none 0 0) HQ19b.out)
      go_wp2_with fail
      go_meet
      exact ⟨HST.out, Chg.of (grw3_ ⟨rfl, rfl, rfl, Nat.le_refl _, fun _ _ _ => rfl⟩)⟩
  case rest =>
    obtain ⟨HQ19c, HC6⟩ := hcut
    obtain ⟨v6, rfl⟩ : ∃ v6, v6 = wc := ⟨_, rfl⟩
    have z0 := HF12.out.size
    have z1 := HF23.out.size
    have z2 := HF34.out.size
    have z3 := HF1.out.size
    have z4 := HFV1.out.size
    have z6 := HC6.out.size
    have z7 := HFw3.out.size
    have z8 := HF35.out.size
    have HFw6 : Hid (Fr w v6) := HC6.out.fr (HFw3.out.trans HF35.out) fun y hy => by omega
    have HF15 : Hid (Fr V1 v5) := HF12.out.trans (HF23.out.trans HF35.out)
    have i7 := (Array.getElem?_eq_some_iff.1 HP7.out).1
    have i5' := (Array.getElem?_eq_some_iff.1 HP5.out).1
    have i6' := (Array.getElem?_eq_some_iff.1 HP6.out).1
    have i11 := (Array.getElem?_eq_some_iff.1 HQ11.out).1
    have i13 := (Array.getElem?_eq_some_iff.1 HQ13.out).1
    have B5 : Hid (v6.heap[p5]? = some (.cells #[.int .i64 B, .int .i64 K, .slice A n c] 24 (0, 0))) := HC6.out.blk (blk_go HP5.out (HFV1.out.trans HF15.out)) (by omega)
    have B6 : Hid (v6.heap[p6]? = some (.cells #[.slice A1 n1 c1, .slice A2 n2 c2] 29 (0, 0))) := HC6.out.blk (blk_go HP6.out (HFV1.out.trans HF15.out)) (by omega)
    have B7 : Hid (v6.heap[p7]? = some (.cells #[.int .i64 B', .int .i64 K', .slice A3 n3 c3] 24 (0, 0))) := HC6.out.blk (blk_go HP7.out (HFV1.out.trans HF15.out)) (by omega)
    have B11 : Hid (v6.heap[q11]? = some (.cells #[.int .i64 nb, .int .i64 nk, .slice none 0 0] 24 (0, 0))) := HC6.out.blk (blk_go HQ11.out HF15.out) (by omega)
    have B13 : Hid (v6.heap[q13]? = some (.cells #[.int .i64 rb, .int .i64 rk, .slice Aa na ca] 24 (0, 0))) := HC6.out.blk (blk_go HQ13.out (HF23.out.trans HF35.out)) (by omega)
    have HSA6 : Hid (Sl 2 eRw v6 (LT v6.heap.size) Aa na rr) := (HSA.out.keep sRw fun p hp => (HC6.out.cell (p := p) (by have hp : p.block < V2.heap.size := hp; omega) (by have hp : p.block < V2.heap.size := hp; omega)).trans ((HF23.out.trans HF35.out).cell hp)).more sRw fun y hy => by
      have hy : y < V2.heap.size := hy
      exact show y < v6.heap.size by omega
    have HSL6 : Hid (Sl 1 eBlock v6 (LT v6.heap.size) Al nl (sysKnown ⟨B, K, rows⟩).1) := (HSL.out.keep wBlock fun p hp => (HC6.out.cell (p := p) (by have hp : p.block < v3.heap.size := hp; omega) (by have hp : p.block < v3.heap.size := hp; omega)).trans (HF35.out.cell hp)).more wBlock fun y hy => by
      have hy : y < v3.heap.size := hy
      exact show y < v6.heap.size by omega
    have C18 : Hid (∀ W, Fr v6 W → Calls Try.prog 18 #[] W fun e w' => e = .returned (.bool true) ∧ Fr v6 w') := fun W hf => (solved_any W).mono fun e w' ⟨h1, h2⟩ => ⟨h1, hf.trans h2⟩
    have C19 : Hid (∀ W, Fr v6 W → Calls Try.prog 19 #[.agg #[.int .i64 B, .int .i64 K, .slice A n c]] W fun e w' => e = .returned (.int .i64 ck) ∧ Fr v6 w') := fun W hf => (sysCheck_any W B K wB wK A n c rows (H.out.go sRw (HFw6.out.trans hf)) hnm).mono fun e w' ⟨h1, h2⟩ => ⟨by rw [h1, Hck.out], hf.trans h2⟩
    have C20 : Hid (∀ W, Fr v6 W → Calls Try.prog 20 #[.agg #[.int .i64 B, .int .i64 K, .slice A n c], .agg #[.int .i64 B', .int .i64 K', .slice A3 n3 c3]] W fun e w' => e = .returned (.bool sm) ∧ Fr v6 w') := fun W hf => (sysSame_lit W B K B' K' A A3 n c n3 c3 rows rows' sm Hsm.out.symm (H.out.go sRw (HFw6.out.trans hf)) (H'.out.go sRw (HFw6.out.trans hf)) hnm).mono fun e w' ⟨h1, h2⟩ => ⟨h1, hf.trans h2⟩
    have C21 : Hid (∀ W, Fr v6 W → Calls Try.prog 21 #[.agg #[.int .i64 B, .int .i64 K, .slice A n c], .agg #[.int .i64 B', .int .i64 K', .slice A3 n3 c3]] W fun e w' => e = .returned (.bool sm) ∧ Fr v6 w') := fun W hf => (refSame_lit W B K B' K' A A3 n c n3 c3 rows rows' sm Hsm.out.symm (H.out.go sRw (HFw6.out.trans hf)) (H'.out.go sRw (HFw6.out.trans hf)) hnl).mono fun e w' ⟨h1, h2⟩ => ⟨h1, hf.trans h2⟩
    have C22 : Hid (∀ W, Fr v6 W → Calls Try.prog 21 #[.agg #[.int .i64 nb, .int .i64 nk, .slice none 0 0], .agg #[.int .i64 nb, .int .i64 nk, .slice none 0 0]] W fun e w' => e = .returned (.bool true) ∧ Fr v6 w') := fun W hf => (refSame_lit W nb nk nb nk none none 0 0 0 0 [] [] true (by simp) Sl.nil Sl.nil (Nat.zero_le _)).mono fun e w' ⟨h1, h2⟩ => ⟨h1, hf.trans h2⟩
    have HKP : Hid (∀ w', Fr v6 w' → (w'.cell? ⟨p5, 0, none⟩ = some (.int .i64 B) ∧ w'.cell? ⟨p5, 1, none⟩ = some (.int .i64 K) ∧ w'.cell? ⟨p5, 2, none⟩ = some (.slice A n c)) ∧ (w'.cell? ⟨p7, 0, none⟩ = some (.int .i64 B') ∧ w'.cell? ⟨p7, 1, none⟩ = some (.int .i64 K') ∧ w'.cell? ⟨p7, 2, none⟩ = some (.slice A3 n3 c3)) ∧ (w'.cell? ⟨q11, 0, none⟩ = some (.int .i64 nb) ∧ w'.cell? ⟨q11, 1, none⟩ = some (.int .i64 nk) ∧ w'.cell? ⟨q11, 2, none⟩ = some (.slice none 0 0)) ∧ w'.cell? ⟨q19, 0, none⟩ = some (.int .i64 nb) ∧ w'.cell? ⟨q19, 1, none⟩ = some (.int .i64 nk) ∧ w'.cell? ⟨q19, 2, none⟩ = some (.slice none 0 0)) := fun w' hf =>
      ⟨box3_ (blk_go B5.out hf), box3_ (blk_go B7.out hf), box3_ (blk_go B11.out hf), box3_ (blk_go HQ19c.out hf)⟩
    have e1 : (ck != ck) = false := by simp
    have e2 : (wv != wv) = false := by simp
    have e3 : (sm != sm) = false := by simp
    have HG : Hid (Fr v6 v6.drew) := (Below.refl _ _).drew
    clear z0 z1 z2 z3 z4 z6 z7 z8 i7 i5' i6' i11 i13
    go_upto_region 9 with fail
    go_cut [84] (fun s84 wx => s84 = .bool false ∧ Hid (Fr v6 wx))
    case first =>
      go_region_held3 (fun w' => (w'.cell? ⟨p5, 0, none⟩ = some (.int .i64 B) ∧ w'.cell? ⟨p5, 1, none⟩ = some (.int .i64 K) ∧ w'.cell? ⟨p5, 2, none⟩ = some (.slice A n c)) ∧ (w'.cell? ⟨p7, 0, none⟩ = some (.int .i64 B') ∧ w'.cell? ⟨p7, 1, none⟩ = some (.int .i64 K') ∧ w'.cell? ⟨p7, 2, none⟩ = some (.slice A3 n3 c3)) ∧ (w'.cell? ⟨q11, 0, none⟩ = some (.int .i64 nb) ∧ w'.cell? ⟨q11, 1, none⟩ = some (.int .i64 nk) ∧ w'.cell? ⟨q11, 2, none⟩ = some (.slice none 0 0)) ∧ w'.cell? ⟨q19, 0, none⟩ = some (.int .i64 nb) ∧ w'.cell? ⟨q19, 1, none⟩ = some (.int .i64 nk) ∧ w'.cell? ⟨q19, 2, none⟩ = some (.slice none 0 0)) (exact HKP.out _ HG.out)
        (first
          | (go_at_call 18; (with_reducible refine (C18.out _ HG.out).mono ?_); rintro e w7 ⟨rfl, hf7⟩; have HG := Lib.hid hf7; clear hf7)
          | (go_at_call 19; (with_reducible refine (C19.out _ HG.out).mono ?_); rintro e w8 ⟨rfl, hf7⟩; have HG := Lib.hid hf7; clear hf7)
          | (go_at_call 20; (with_reducible refine (C20.out _ HG.out).mono ?_); rintro e w9 ⟨rfl, hf7⟩; have HG := Lib.hid hf7; clear hf7)
          | (go_at_call 21; (with_reducible refine (C21.out _ HG.out).mono ?_); rintro e w10 ⟨rfl, hf7⟩; have HG := Lib.hid hf7; clear hf7)
          | (go_at_call 21; (with_reducible refine (C22.out _ HG.out).mono ?_); rintro e w11 ⟨rfl, hf7⟩; have HG := Lib.hid hf7; clear hf7)
          | fail)
      all_goals
        go_wp2_with fail
        go_meet
        exact ⟨rfl, HG.out⟩
    case rest =>
      obtain ⟨rfl, HF67⟩ := hcut
      obtain ⟨v7, rfl⟩ : ∃ v7, v7 = wc := ⟨_, rfl⟩
      have HFw7 : Hid (Fr w v7) := HFw6.out.trans HF67.out
      have D5 := Lib.hid (blk_go B5.out HF67.out)
      have D6 := Lib.hid (blk_go B6.out HF67.out)
      have D13 := Lib.hid (blk_go B13.out HF67.out)
      have HSA7 := Lib.hid (HSA6.out.go sRw HF67.out)
      have HSL7 := Lib.hid (HSL6.out.go wBlock HF67.out)
      have d13 := D13.out
      (obtain ⟨u0, u1, u2⟩ := box3_ d13)
      clear d13 C18 C19 C20 C21 C22
      by_cases h0 : ck = 0
      · have e4 : (ck != 0) = false := by simp [h0]
        have HCK0 : Hid (sysCheck B K rows = 0) := by rw [Hid, ← Hck.out]; exact h0
        have d5 := D5.out
        have d6 := D6.out
        (obtain ⟨x0, x1, x2⟩ := box3_ d5)
        (obtain ⟨y0, y1⟩ := box2_ d6)
        clear h0 d5 d6
        go_wp2_with fail
        have CA2 : Hid (Calls Try.prog 22 #[.agg #[.int .i64 B, .int .i64 K, .slice A n c], .agg #[.slice A1 n1 c1, .slice A2 n2 c2]] v7 fun e w' => ∃ Ab nb' cb, e = .returned (.tuple #[.agg #[.int .i64 rb, .int .i64 rk, .slice Ab nb' cb], .bool more, .int .i64 er]) ∧ nb' ≤ 25 ∧ Sl 2 eRw w' (LT w'.heap.size) Ab nb' rr ∧ Fr v7 w') := by
          refine (refAdd_any v7 B K A n c rows (H.out.go sRw HFw7.out) HCK0.out r A1 A2 n1 c1 n2 c2 (Ha.out.go sBool HFw7.out) (Hd.out.go sByte HFw7.out) Hc1.out Hc2.out).mono ?_
          rw [HR.out]
          rintro e w' ⟨Ab, nb', cb, rfl, ⟨h1, _⟩, hs, hf⟩
          exact ⟨Ab, nb', cb, rfl, h1, hs, hf⟩
        (with_reducible refine (CA2.out).mono ?_)
        rintro e v8 ⟨Ab, nb', cb, rfl, hnb', hsb, hf⟩
        obtain ⟨q21, hq21⟩ : ∃ q21, q21 = v8.heap.size := ⟨_, rfl⟩
        obtain ⟨V8, hV8⟩ : ∃ V8, V8 = v8.alloc (.cells #[.int .i64 rb, .int .i64 rk, .slice Ab nb' cb] 24) := ⟨_, rfl⟩
        have HF8 : Hid (Fr v8 V8) := by rw [hV8]; exact frAlloc _ _
        have HF78 : Hid (Fr v7 V8) := hf.trans HF8.out
        have HSB := Lib.hid (hsb.go sRw HF8.out)
        have HSA8 := Lib.hid (HSA7.out.go sRw HF78.out)
        have hD13 := blk_go D13.out hf
        have e5 : (er == er) = true := by simp
        have e6 : (more == more) = true := by simp
        have hnal : na ≤ lim := by unfold lim; omega
        have HV8 := Lib.hid hV8
        have HQ21 := Lib.hid hq21
        have CS2 := Lib.hid (refSame_lit V8 rb rk rb rk Aa Ab na ca nb' cb rr rr true (by simp) HSA8.out HSB.out hnal)
        (obtain ⟨u0, u1, u2⟩ := box3_ hD13)
        have i13 := (Array.getElem?_eq_some_iff.1 hD13).1
        have HD5 := Lib.hid (blk_go D5.out HF78.out)
        clear hV8 hq21 hf hsb hD13 x0 x1 x2 y0 y1
        go_wp2_with fail
        rw [← HV8.out]
        clear u0 u1 u2
        (with_reducible refine (CS2.out).mono ?_)
        rintro e v9 ⟨rfl, hf⟩
        have HF79 : Hid (Fr v7 v9) := HF78.out.trans hf
        have hd9 := blk_go HD5.out hf
        (obtain ⟨x0, x1, x2⟩ := box3_ hd9)
        clear hf hd9
        go_wp2_with fail
        (with_reducible refine (refKnown_any _ _ _ _ _ _ rows (H.out.go sRw (HFw7.out.trans HF79.out)) HCK0.out).mono ?_)
        rintro e v10 ⟨g, m, rfl, hsk, hf⟩
        have HF710 : Hid (Fr v7 v10) := HF79.out.trans hf
        have HSK := Lib.hid hsk
        have HSL10 := Lib.hid (HSL7.out.go wBlock HF710.out)
        have hnlm : nl ≤ maxLen := by unfold maxLen; omega
        clear hf hsk x0 x1 x2
        go_wp2_with fail
        (with_reducible refine (equalFuncBlock_any _ 25 (fun _ _ => by kernel_rfl) sayBlocks_any _ _ _ _ _ _ _ _ _ _ HSL10.out HSK.out hnlm).mono ?_)
        rw [decide_eq_true rfl]
        rintro e v11 ⟨rfl, mq, rfl⟩
        go_wp2_with fail
        go_ret
        exact ⟨rfl, (HFw7.out.trans HF710.out).trans (frDrewN _ _)⟩
      · have e4 : (ck != 0) = true := by simp [h0]
        have hRn : sysAdd ⟨B, K, rows⟩ r = (Sy.none, false, ck) := by
          unfold sysAdd
          rw [Hck.out] at h0 ⊢
          rw [if_pos h0]
        rw [HR.out] at hRn
        injection hRn with r1 r2
        injection r1 with r1 r3 r4
        injection r2 with r2 r5
        subst r1 r2 r3 r4 r5
        obtain rfl : nl = 0 := HNL0.out h0
        have e5 : (er == er) = true := by simp
        have hnal : na ≤ lim := by unfold lim; omega
        have CS3 := Lib.hid (refSame_lit v7 0 0 0 0 Aa none na ca 0 0 [] [] true (by simp) HSA7.out Sl.nil hnal)
        clear h0
        go_wp2_with fail
        (with_reducible refine (CS3.out).mono ?_)
        rintro e v8 ⟨rfl, hf⟩
        have HF8 : Hid (Fr w v8) := HFw7.out.trans hf
        clear hf
        go_wp2_with fail
        go_ret
        exact ⟨rfl, HF8.out⟩
theorem solveSays_any (w : World) (B K : Int) (A : Option Addr) (n c : Nat) (rows : List Rw) (wB : wfI B) (wK : wfI K) (h : Sl 2 eRw w (LT w.heap.size) A n rows) (l : n * 48 ≤ lim) (_lc : n ≤ c) (_lm : c ≤ maxLen) (r : Rw) (A1 : Option Addr) (n1 c1 : Nat) (A2 : Option Addr) (n2 c2 : Nat) (ha : Bol w (LT w.heap.size) A1 n1 c1 r.has) (hd : Byt w (LT w.heap.size) A2 n2 c2 r.data)
    (B' K' : Int) (A3 : Option Addr) (n3 c3 : Nat) (rows' : List Rw) (_wB' : wfI B') (_wK' : wfI K') (h' : Sl 2 eRw w (LT w.heap.size) A3 n3 rows') (_l' : n3 * 48 ≤ lim) (_lc' : n3 ≤ c3) (_lm' : c3 ≤ maxLen) (many : Int) (wm : wfI many) (long : Int) (wl : wfI long) :
    Calls Try.prog 3 #[.agg #[.int .i64 B, .int .i64 K, .slice A n c], .agg #[.slice A1 n1 c1, .slice A2 n2 c2], .agg #[.int .i64 B', .int .i64 K', .slice A3 n3 c3], .int .i64 many, .int .i64 long] w fun e w' => e = .returned (.bool true) ∧ Fr w w' :=
  solveSays_walk w B K wB wK A n c rows h (by omega) r A1 A2 n1 c1 n2 c2 ha.2 hd.2 ha.1.2 hd.1.2 B' K' A3 n3 c3 rows' h' many long wm wl
end Go.Proofs.Ytnfjghldcopaaaa
namespace Go.Proofs.Ytnfjghldcopaaaa
open Go.RowKit
attribute [local irreducible] wpList

set_option maxRecDepth 100000 in
set_option maxHeartbeats 1000000 in
theorem refSym_any (w : World) (A : Option Addr) (n c : Nat) (B K : Int) (cargo : List UInt8) (id : Int) (h : Sl 1 eByte w (LT w.heap.size) A n cargo) (wB : wfI B) (wK : wfI K) :
    Calls Try.prog 44 #[.agg #[.int .i64 B, .int .i64 K], .slice A n c, .int .i64 id] w fun e w' => ∃ A' n' c', e = .returned (.tuple #[.agg #[.int .i64 (makeSym B K cargo id).1.1, .slice A' n' c'], .int .i64 (makeSym B K cargo id).2]) ∧ (n' ≤ 16 ∧ n' ≤ c' ∧ c' ≤ maxLen) ∧ Sl 1 eByte w' (LT w'.heap.size) A' n' (makeSym B K cargo id).1.2 ∧ Fr w w' := by
  by_cases hu : (cutUp B K cargo).2 = 0
  · obtain ⟨hck, hl⟩ := cutUp_err hu
    obtain ⟨b, rfl⟩ := Int.eq_ofNat_of_zero_le (show 0 ≤ B by omega)
    obtain ⟨k, rfl⟩ := Int.eq_ofNat_of_zero_le (show 0 ≤ K by have := (cutCheck_ok hck).2.1; omega)
    have hl2 : cargo.length = b := by omega
    obtain rfl : n = b := h.1.symm.trans hl2
    by_cases hid : 0 ≤ id ∧ id ≤ 9999
    · have E := makeSym_ok (id := id) hck hl2 hid
      have e1 : (makeSym n k cargo id).1.1 = id := by rw [E]
      have e2 : (makeSym n k cargo id).2 = 0 := by rw [E]
      rw [e1, e2]
      exact refSym_ok w A n c k cargo id h hck hid
    · have E : Hid (makeSym n k cargo id = ((0, []), 3)) := makeSym_err2 hck hl2 hid
      obtain ⟨q1, q2, _⟩ := cutF_count hck hl2
      have E1 : Hid (cutUp n k cargo = (cutF k n cargo, 0)) := cutUp_ok hck hl2
      obtain ⟨X, hX⟩ : ∃ X, X = cutF k n cargo := ⟨_, rfl⟩
      rw [← hX] at E1 q1 q2
      have E2 : Hid (pickedR id (X.length : Nat) = ([], 3)) := by
        unfold pickedR Hid
        rw [if_neg (by omega)]
      rw [E.out]
      clear hX hu hck hl hl2
      (have H := Lib.hid h; clear h; have Hid := Lib.hid hid; clear hid)
      go_enter Try.func44, Try.ntmps44
      go_wp2_with fail
      (with_reducible refine (refCutUp_any _ _ _ _ _ _ cargo (H.out.go sByte (by (repeat' (first | exact Below.refl _ _ | refine below_drewN ?_ _ | refine Below.drew ?_ | refine frA ?_ _ | refine Fr.trans ?_ Hf1.out)))) wB wK).mono ?_)
      rw [E1.out]
      rintro e w1 ⟨v, rfl, ho, hf1⟩
      obtain ⟨B1, d1, rfl, ⟨hd1, hd2⟩, hs1⟩ := ho.slC wBlock (by decide)
      have hz := blk_go (heap_new (w := w.alloc (.cells #[.int .i64 n, .int .i64 k] 47)) (o := .cells #[.int .i64 0, .slice none 0 0] 53) rfl) hf1
      simp only [World.size_alloc] at hz
      (have Hz := Lib.hid hz; clear hz; have Hf1 := Lib.hid hf1; clear hf1; have Hs1 := Lib.hid hs1; clear hs1; have Ho := Lib.hid ho; clear ho)
      go_wp2_with fail
      (with_reducible refine (refPicked_any _ _ _).mono ?_)
      rw [E2.out]
      rintro e w2 ⟨B2, n2, d2, rfl, hn2, hs2, hf2⟩
      have hz2 := blk_go Hz.out hf2
      have z0 := cell_of_heap (i := 0) hz2
      have z1 := cell_of_heap (i := 1) hz2
      have zf0 := blk_free (i := 0) hz2
      have zf1 := blk_free (i := 1) hz2
      (have Hz2 := Lib.hid hz2; clear hz2; have Hs2 := Lib.hid hs2; clear hs2; have Hf2 := Lib.hid hf2; clear hf2)
      go_wp2_with fail
      refine bodyPost_ret (v := .tuple #[.agg #[.int .i64 0, .slice none 0 0], .int .i64 3]) ?_ rfl ?_
      · simp [results, Try.results44, go_sem, z0, z1]
      · have h0 : Fr w w2 := by (repeat' (first | exact Below.refl _ _ | refine below_drewN ?_ _ | refine Below.drew ?_ | refine frA ?_ _ | refine Fr.trans ?_ Hf2.out | refine Fr.trans ?_ Hf1.out))
        exact ⟨none, 0, 0, rfl, ⟨by omega, by omega, by unfold maxLen; omega⟩, Sl.nil, (h0.setCell (by simp) _).setCell (by simp) _⟩
  · have hne : ((cutUp B K cargo).2 != 0) = true := by rw [bne_iff_ne]; exact hu
    have E : Hid (makeSym B K cargo id = ((0, []), (cutUp B K cargo).2)) := makeSym_err1 hu
    rw [E.out]
    clear hu
    (have H := Lib.hid h; clear h)
    go_enter Try.func44, Try.ntmps44
    go_wp2_with fail
    (with_reducible refine (refCutUp_any _ _ _ _ _ _ cargo (H.out.go sByte (by (repeat' (first | exact Below.refl _ _ | refine below_drewN ?_ _ | refine Below.drew ?_ | refine frA ?_ _ | refine Fr.trans ?_ Hf1.out)))) wB wK).mono ?_)
    rintro e w1 ⟨v, rfl, ho, hf1⟩
    have hz := blk_go (heap_new (w := w.alloc (.cells #[.int .i64 B, .int .i64 K] 47)) (o := .cells #[.int .i64 0, .slice none 0 0] 53) rfl) hf1
    simp only [World.size_alloc] at hz
    have z0 := cell_of_heap (i := 0) hz
    have z1 := cell_of_heap (i := 1) hz
    have zf0 := blk_free (i := 0) hz
    have zf1 := blk_free (i := 1) hz
    (have Hz := Lib.hid hz; clear hz; have Hf1 := Lib.hid hf1; clear hf1; have Ho := Lib.hid ho; clear ho)
    go_wp2_with fail
    refine bodyPost_ret (v := .tuple #[.agg #[.int .i64 0, .slice none 0 0], .int .i64 (cutUp B K cargo).2]) ?_ rfl ?_
    · simp [results, Try.results44, go_sem, z0, z1]
    · have h0 : Fr w w1 := by (repeat' (first | exact Below.refl _ _ | refine below_drewN ?_ _ | refine Below.drew ?_ | refine frA ?_ _ | refine Fr.trans ?_ Hf1.out))
      exact ⟨none, 0, 0, rfl, ⟨by omega, by omega, by unfold maxLen; omega⟩, Sl.nil, (h0.setCell (by simp) _).setCell (by simp) _⟩

set_option maxHeartbeats 1000000 in
theorem refCheckSym_any (w : World) (B K id : Int) (A : Option Addr) (n c : Nat) (wB : wfI B) (wK : wfI K) :
    Calls Try.prog 47 #[.agg #[.int .i64 B, .int .i64 K], .agg #[.int .i64 id, .slice A n c]] w fun e w' => e = .returned (.int .i64 (codeCheck B K id n)) ∧ Fr w w' := by
  have CC := Lib.hid (fun W : World => refCheckPlan_any W B K wB wK)
  by_cases hck : cutCheck B K = 0
  · rw [hck] at CC
    have E : Hid (codeCheck B K id n = if id < 0 ∨ 9999 < id then 3 else if (n : Int) ≠ K then 4 else 0) := by unfold codeCheck Hid; rw [if_neg (by simp [hck])]
    clear hck
    by_cases h1 : id < 0 ∨ 9999 < id
    · have E1 : Hid (codeCheck B K id n = 3) := by rw [Hid, E.out, if_pos h1]
      have r1 : inR id 0 9999 = false := inR_f (by omega)
      clear h1
      go_enter Try.func47, Try.ntmps47
      go_wp2_with fail
      (with_reducible refine (CC.out _).mono ?_)
      rintro e w1 ⟨rfl, hf1⟩
      have hz := blk_go (heap_new (w := w.alloc (.cells #[.int .i64 B, .int .i64 K] 47)) (o := .cells #[.int .i64 id, .slice A n c] 53) rfl) hf1
      have hp := blk_go (heap_old (o := .cells #[.int .i64 id, .slice A n c] 53) (heap_new (w := w) (o := .cells #[.int .i64 B, .int .i64 K] 47) rfl)) hf1
      simp only [World.size_alloc] at hz
      have z0 := cell_of_heap (i := 0) hz
      have z1 := cell_of_heap (i := 1) hz
      have p1 := cell_of_heap (i := 1) hp
      (have Hz := Lib.hid hz; clear hz; have Hp := Lib.hid hp; clear hp; have Hf1 := Lib.hid hf1; clear hf1)
      go_wp2_with (go_at_call 61; refine (in_any _ _ _ _).mono ?_; rintro e w' ⟨rfl, rfl⟩)
      go_ret
      exact ⟨retI E1.out.symm, (by (repeat' (first | exact Below.refl _ _ | refine below_drewN ?_ _ | refine Below.drew ?_ | refine frA ?_ _ | refine Fr.trans ?_ Hf1.out)))⟩
    · have r1 : inR id 0 9999 = true := inR_t (by omega)
      by_cases h3 : (n : Int) = K
      · have E1 : Hid (codeCheck B K id n = 0) := by rw [Hid, E.out, if_neg (by omega), if_neg (by simp [h3])]
        have hne : ((n : Int) != K) = false := by rw [h3]; simp
        clear h3 h1
        go_enter Try.func47, Try.ntmps47
        go_wp2_with fail
        (with_reducible refine (CC.out _).mono ?_)
        rintro e w1 ⟨rfl, hf1⟩
        have hz := blk_go (heap_new (w := w.alloc (.cells #[.int .i64 B, .int .i64 K] 47)) (o := .cells #[.int .i64 id, .slice A n c] 53) rfl) hf1
        have hp := blk_go (heap_old (o := .cells #[.int .i64 id, .slice A n c] 53) (heap_new (w := w) (o := .cells #[.int .i64 B, .int .i64 K] 47) rfl)) hf1
        simp only [World.size_alloc] at hz
        have z0 := cell_of_heap (i := 0) hz
        have z1 := cell_of_heap (i := 1) hz
        have p1 := cell_of_heap (i := 1) hp
        (have Hz := Lib.hid hz; clear hz; have Hp := Lib.hid hp; clear hp; have Hf1 := Lib.hid hf1; clear hf1)
        go_wp2_with (go_at_call 61; refine (in_any _ _ _ _).mono ?_; rintro e w' ⟨rfl, rfl⟩)
        go_ret
        exact ⟨retI E1.out.symm, (by (repeat' (first | exact Below.refl _ _ | refine below_drewN ?_ _ | refine Below.drew ?_ | refine frA ?_ _ | refine Fr.trans ?_ Hf1.out)))⟩
      · have E1 : Hid (codeCheck B K id n = 4) := by rw [Hid, E.out, if_neg (by omega), if_pos h3]
        have hne : ((n : Int) != K) = true := by rw [bne_iff_ne]; exact h3
        clear h3 h1
        go_enter Try.func47, Try.ntmps47
        go_wp2_with fail
        (with_reducible refine (CC.out _).mono ?_)
        rintro e w1 ⟨rfl, hf1⟩
        have hz := blk_go (heap_new (w := w.alloc (.cells #[.int .i64 B, .int .i64 K] 47)) (o := .cells #[.int .i64 id, .slice A n c] 53) rfl) hf1
        have hp := blk_go (heap_old (o := .cells #[.int .i64 id, .slice A n c] 53) (heap_new (w := w) (o := .cells #[.int .i64 B, .int .i64 K] 47) rfl)) hf1
        simp only [World.size_alloc] at hz
        have z0 := cell_of_heap (i := 0) hz
        have z1 := cell_of_heap (i := 1) hz
        have p1 := cell_of_heap (i := 1) hp
        (have Hz := Lib.hid hz; clear hz; have Hp := Lib.hid hp; clear hp; have Hf1 := Lib.hid hf1; clear hf1)
        go_wp2_with (go_at_call 61; refine (in_any _ _ _ _).mono ?_; rintro e w' ⟨rfl, rfl⟩)
        go_ret
        exact ⟨retI E1.out.symm, (by (repeat' (first | exact Below.refl _ _ | refine below_drewN ?_ _ | refine Below.drew ?_ | refine frA ?_ _ | refine Fr.trans ?_ Hf1.out)))⟩
  · have E1 : Hid (codeCheck B K id n = cutCheck B K) := if_pos hck
    have hne : (cutCheck B K != 0) = true := by rw [bne_iff_ne]; exact hck
    clear hck
    go_enter Try.func47, Try.ntmps47
    go_wp2_with fail
    (with_reducible refine (CC.out _).mono ?_)
    rintro e w1 ⟨rfl, hf1⟩
    have hz := blk_go (heap_new (w := w.alloc (.cells #[.int .i64 B, .int .i64 K] 47)) (o := .cells #[.int .i64 id, .slice A n c] 53) rfl) hf1
    have hp := blk_go (heap_old (o := .cells #[.int .i64 id, .slice A n c] 53) (heap_new (w := w) (o := .cells #[.int .i64 B, .int .i64 K] 47) rfl)) hf1
    simp only [World.size_alloc] at hz
    have z0 := cell_of_heap (i := 0) hz
    have z1 := cell_of_heap (i := 1) hz
    have p1 := cell_of_heap (i := 1) hp
    (have Hz := Lib.hid hz; clear hz; have Hp := Lib.hid hp; clear hp; have Hf1 := Lib.hid hf1; clear hf1)
    go_wp2_with (go_at_call 61; refine (in_any _ _ _ _).mono ?_; rintro e w' ⟨rfl, rfl⟩)
    go_ret
    exact ⟨retI E1.out.symm, (by (repeat' (first | exact Below.refl _ _ | refine below_drewN ?_ _ | refine Below.drew ?_ | refine frA ?_ _ | refine Fr.trans ?_ Hf1.out)))⟩
end Go.Proofs.Ytnfjghldcopaaaa
