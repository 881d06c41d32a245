/- 'CodeSays', walked. No condition. -/
import Derived.Test.YtnfjghldcopaaaaRSym2
import Derived.Test.YtnfjghldcopaaaaMade
import Derived.Deep.RegionHeld3
import Derived.Test.YtnfjghldcopaaaaSt
set_option linter.unusedSimpArgs false
set_option linter.unusedVariables false
namespace Go.Proofs.Ytnfjghldcopaaaa
open Go.RowKit
attribute [local irreducible] wpList

theorem box222_ {w : World} {a b c d : Nat} {x0 x1 y0 y1 z0 z1 u0 u1 : Value} {s t q r : TypeId} {f1 f2 f3 f4 : Nat × Nat} (h1 : w.heap[a]? = some (.cells #[x0, x1] s f1)) (h2 : w.heap[b]? = some (.cells #[y0, y1] t f2)) (h3 : w.heap[c]? = some (.cells #[z0, z1] q f3)) (h4 : w.heap[d]? = some (.cells #[u0, u1] r f4)) :
    w.cell? ⟨a, 0, none⟩ = some x0 ∧ w.cell? ⟨a, 1, none⟩ = some x1 ∧ w.cell? ⟨b, 0, none⟩ = some y0 ∧ w.cell? ⟨b, 1, none⟩ = some y1 ∧ w.cell? ⟨c, 0, none⟩ = some z0 ∧ w.cell? ⟨c, 1, none⟩ = some z1 ∧ w.cell? ⟨d, 0, none⟩ = some u0 ∧ w.cell? ⟨d, 1, none⟩ = some u1 :=
  ⟨cell_of_heap h1, cell_of_heap h1, cell_of_heap h2, cell_of_heap h2, cell_of_heap h3, cell_of_heap h3, cell_of_heap h4, cell_of_heap h4⟩
theorem equalBlock_eq (w : World) (S T : Nat → Prop) (A A' : Option Addr) (n c n' c' : Nat) (xs : List UInt8) (h : Sl 1 eByte w S A n xs) (h' : Sl 1 eByte w T A' n' xs) (hm : n ≤ maxLen) :
    Calls Try.prog 26 #[.slice A n c, .slice A' n' c'] w fun e w' => e = .returned (.bool true) ∧ Fr w w' :=
  (equalBlock_any w S T A A' n c n' c' xs xs h h' hm).mono fun e w' ⟨he, m, hw⟩ => ⟨by rw [he]; simp, by rw [hw]; exact frDrewN _ _⟩

set_option maxRecDepth 100000 in
set_option maxHeartbeats 2000000 in
theorem codeSays_walk (w : World) (B K : Int) (wB : wfI B) (wK : wfI K) (A : Option Addr) (n c : Nat) (cargo : List UInt8) (h : Sl 1 eByte w (LT w.heap.size) A n cargo) (hnc : n ≤ c) (hcm : c ≤ maxLen) (id : Int) (wi : wfI id) (sid : Int) (A2 : Option Addr) (n2 c2 : Nat) :
    Calls Try.prog 10 #[.agg #[.int .i64 B, .int .i64 K], .slice A n c, .int .i64 id, .agg #[.int .i64 sid, .slice A2 n2 c2]] w fun e w' => e = .returned (.bool true) ∧ Fr w w' := by
  obtain ⟨m1, hm1⟩ : ∃ q, q = (makeSym B K cargo id).1.1 := ⟨_, rfl⟩
  obtain ⟨m2, hm2⟩ : ∃ q, q = (makeSym B K cargo id).1.2 := ⟨_, rfl⟩
  obtain ⟨m3, hm3⟩ : ∃ q, q = (makeSym B K cargo id).2 := ⟨_, rfl⟩
  obtain ⟨ck, hck⟩ : ∃ q, q = codeCheck B K sid n2 := ⟨_, rfl⟩
  have CM := Lib.hid (fun W A n c h hn hc => codeMake_any W A n c B K cargo id h hn hc wB wK)
  have CR := Lib.hid (fun W A n c h => refSym_any W A n c B K cargo id h wB wK)
  have CC := Lib.hid (fun W A c => codeCheck_any W B K sid A n2 c wB wK)
  have CD := Lib.hid (fun W A c => refCheckSym_any W B K sid A n2 c wB wK)
  rw [← hm1, ← hm2, ← hm3] at CM CR
  rw [← hck] at CC CD
  have e1 : (m3 == m3) = true := by simp
  have e2 : (ck == ck) = true := by simp
  have e3 : (m1 == m1) = true := by simp
  (have H := Lib.hid h; clear h; have Hm1 := Lib.hid hm1; clear hm1; have Hm2 := Lib.hid hm2; clear hm2; have Hm3 := Lib.hid hm3; clear hm3; have Hck := Lib.hid hck; clear hck)
  go_enter Try.func10, Try.ntmps10
  go_wp2_with fail
  (with_reducible refine (CM.out _ A n c (H.out.go sByte (by (repeat' (first | exact Below.refl _ _ | refine below_drewN ?_ _ | refine Below.drew ?_ | refine frA ?_ _)))) hnc hcm).mono ?_)
  rintro e w1 ⟨A3, n3, c3, rfl, ⟨hn3, hc3, hx3⟩, _, hs3, hf1⟩
  have hp1 : w1.heap[w.heap.size]? = some (.cells #[.int .i64 B, .int .i64 K] 47 (0, 0)) := blk_go (by (repeat' (with_reducible (first | (refine heap_new ?_; (first | (simp; done) | rfl); done) | refine heap_dn ?_ | refine heap_d ?_ | refine heap_old ?_)))) hf1
  have hq1 : w1.heap[w.heap.size + 1]? = some (.cells #[.int .i64 sid, .slice A2 n2 c2] 53 (0, 0)) := blk_go (heap_new (by simp)) hf1
  have hpl := blk_l hp1
  have hql := blk_l hq1
  have hp10 := cell_of_heap (i := 0) hp1
  have hp11 := cell_of_heap (i := 1) hp1
  have HF1 : Hid (Fr w w1) := Fr.trans (by (repeat' (first | exact Below.refl _ _ | refine below_drewN ?_ _ | refine Below.drew ?_ | refine frA ?_ _))) hf1
  clear hf1
  (have Hp1 := Lib.hid hp1; clear hp1; have Hq1 := Lib.hid hq1; clear hq1; have Hs3 := Lib.hid hs3; clear hs3)
  go_wp2_with fail
  (with_reducible refine (CR.out _ A n c (H.out.go sByte (by (repeat' (first | exact Below.refl _ _ | refine below_drewN ?_ _ | refine Below.drew ?_ | refine frA ?_ _ | refine Fr.trans ?_ HF1.out))))).mono ?_)
  rintro e w2 ⟨A4, n4, c4, rfl, ⟨hn4, hc4, hx4⟩, hs4, hf2⟩
  have hp2 := blk_go (heap_old (o := .cells #[.int .i64 m1, .slice A3 n3 c3] 53) Hp1.out) hf2
  have hq2 := blk_go (heap_old (o := .cells #[.int .i64 m1, .slice A3 n3 c3] 53) Hq1.out) hf2
  have hr2 : w2.heap[w1.heap.size]? = some (.cells #[.int .i64 m1, .slice A3 n3 c3] 53 (0, 0)) := blk_go (heap_new rfl) hf2
  have hs3 := Hs3.out.go sByte (Fr.trans (frAlloc _ _) hf2)
  have HF2 : Hid (Fr w w2) := HF1.out.trans (Fr.trans (frAlloc _ _) hf2)
  have hpl2 := blk_l hp2
  have hql2 := blk_l hq2
  have hrl2 := blk_l hr2
  clear hf2 hp10 hp11 Hp1 Hq1 Hs3
  go_wp2_with fail
  obtain ⟨W4, hW4⟩ : ∃ W4, W4 = w2.alloc (.cells #[.int .i64 m1, .slice A4 n4 c4] 53) := ⟨_, rfl⟩
  have HP : Hid (W4.drew.heap[w.heap.size]? = some (.cells #[.int .i64 B, .int .i64 K] 47 (0, 0))) := by rw [hW4]; exact heap_d (heap_old hp2)
  have HQ : Hid (W4.drew.heap[w.heap.size + 1]? = some (.cells #[.int .i64 sid, .slice A2 n2 c2] 53 (0, 0))) := by rw [hW4]; exact heap_d (heap_old hq2)
  have HR : Hid (W4.drew.heap[w1.heap.size]? = some (.cells #[.int .i64 m1, .slice A3 n3 c3] 53 (0, 0))) := by rw [hW4]; exact heap_d (heap_old hr2)
  have HU : Hid (W4.drew.heap[w2.heap.size]? = some (.cells #[.int .i64 m1, .slice A4 n4 c4] 53 (0, 0))) := by rw [hW4]; exact heap_d (heap_new rfl)
  have HG : Hid (Fr w2 W4.drew) := by rw [hW4]; exact (frAlloc _ _).drew
  have hn3m : n3 ≤ maxLen := by unfold maxLen; omega
  rw [← hW4]
  clear hW4 hp2 hq2 hr2 hpl hql hpl2 hql2 hrl2 CM CR
  (have Hs3 := Lib.hid hs3; clear hs3; have Hs4 := Lib.hid hs4; clear hs4)
  go_region_held3 (fun w' => w'.cell? ⟨w.heap.size, 0, none⟩ = some (.int .i64 B) ∧ w'.cell? ⟨w.heap.size, 1, none⟩ = some (.int .i64 K) ∧ w'.cell? ⟨w.heap.size + 1, 0, none⟩ = some (.int .i64 sid) ∧ w'.cell? ⟨w.heap.size + 1, 1, none⟩ = some (.slice A2 n2 c2) ∧ w'.cell? ⟨w1.heap.size, 0, none⟩ = some (.int .i64 m1) ∧ w'.cell? ⟨w1.heap.size, 1, none⟩ = some (.slice A3 n3 c3) ∧ w'.cell? ⟨w2.heap.size, 0, none⟩ = some (.int .i64 m1) ∧ w'.cell? ⟨w2.heap.size, 1, none⟩ = some (.slice A4 n4 c4)) (first | exact box222_ HP.out HQ.out HR.out HU.out | go_keep)
    (first
      | (go_at_call 45; (with_reducible refine (made_any _).mono ?_); rintro e w5 ⟨rfl, hf5⟩; have HG := Lib.hid (HG.out.trans hf5); have HP := Lib.hid (blk_go HP.out hf5); have HQ := Lib.hid (blk_go HQ.out hf5); have HR := Lib.hid (blk_go HR.out hf5); have HU := Lib.hid (blk_go HU.out hf5); clear hf5)
      | (go_at_call 46; (with_reducible refine (CC.out _ _ _).mono ?_); rintro e w5 ⟨rfl, hf5⟩; have HG := Lib.hid (HG.out.trans hf5); have HP := Lib.hid (blk_go HP.out hf5); have HQ := Lib.hid (blk_go HQ.out hf5); have HR := Lib.hid (blk_go HR.out hf5); have HU := Lib.hid (blk_go HU.out hf5); clear hf5)
      | (go_at_call 47; (with_reducible refine (CD.out _ _ _).mono ?_); rintro e w5 ⟨rfl, hf5⟩; have HG := Lib.hid (HG.out.trans hf5); have HP := Lib.hid (blk_go HP.out hf5); have HQ := Lib.hid (blk_go HQ.out hf5); have HR := Lib.hid (blk_go HR.out hf5); have HU := Lib.hid (blk_go HU.out hf5); clear hf5)
      | (go_at_call 26; (with_reducible refine (equalBlock_eq _ _ _ _ _ _ _ _ _ m2 (Hs3.out.go sByte HG.out) (Hs4.out.go sByte HG.out) hn3m).mono ?_); rintro e w5 ⟨rfl, hf5⟩; have HG := Lib.hid (HG.out.trans hf5); have HP := Lib.hid (blk_go HP.out hf5); have HQ := Lib.hid (blk_go HQ.out hf5); have HR := Lib.hid (blk_go HR.out hf5); have HU := Lib.hid (blk_go HU.out hf5); clear hf5)
      | fail)
  all_goals
    go_wp2_with fail
    go_ret
    exact ⟨by first | rfl | simp, HF2.out.trans HG.out⟩
theorem codeSays_any (w : World) (B K : Int) (wB : wfI B) (wK : wfI K) (A : Option Addr) (n c : Nat) (cargo : List UInt8) (h : Sl 1 eByte w (LT w.heap.size) A n cargo) (_l : n * 1 ≤ lim) (hnc : n ≤ c) (hcm : c ≤ maxLen) (id : Int) (wi : wfI id) (s : Sm) (A2 : Option Addr) (n2 c2 : Nat) (_ws : wfI s.id) (_hs : Byt w (LT w.heap.size) A2 n2 c2 s.data) :
    Calls Try.prog 10 #[.agg #[.int .i64 B, .int .i64 K], .slice A n c, .int .i64 id, .agg #[.int .i64 s.id, .slice A2 n2 c2]] w fun e w' => e = .returned (.bool true) ∧ Fr w w' :=
  codeSays_walk w B K wB wK A n c cargo h hnc hcm id wi s.id A2 n2 c2
end Go.Proofs.Ytnfjghldcopaaaa
