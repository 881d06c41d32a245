/- keep.Same: the closure at two bundles, and places. No condition. -/
import Derived.Test.YtmiaplgfbphfmaaGreatDoorMPGA
import Derived.Test.YtmiaplgfbphfmaaGreatDoorMPGC
import Derived.Test.YtmiaplgfbphfmaaGreatDoorMPP
import Derived.Test.YtmiaplgfbphfmaaGreatDoorMPJ
import Derived.Test.YtmiaplgfbphfmaaGreatDoorMPI
import Derived.StillTailTactics
import Derived.Deep.RegionHeld3
import Derived.Deep.DeepCutAuto
import Derived.Deep.Cut
import Derived.Test.YtmiaplgfbphfmaaGreatDoorMPB
import Derived.Deep.WholeRow
import Derived.Deep.MidRow
import Derived.Test.YtmiaplgfbphfmaaGreatDoorMPQ
set_option linter.unusedSimpArgs false
set_option linter.unusedVariables false
namespace Go.Proofs.YtmiaplgfbphfmaaGreatDoor
open Go.RowKit
attribute [local irreducible] wpList

/-- A function value that says whether two symbols are alike. -/
def SaysSm (P : Program) (f : FuncId) : Prop := ∀ (W : World) (a b : Sm) (A : Option Addr) (n c : Nat) (A2 : Option Addr) (n2 c2 : Nat), Byt W (LT W.heap.size) A n c a.data → Byt W (LT W.heap.size) A2 n2 c2 b.data →
  Calls P f #[.agg #[.int .i64 a.id, .slice A n c], .agg #[.int .i64 b.id, .slice A2 n2 c2]] W fun e w' => e = .returned (.bool (decide (a = b))) ∧ Fr W w'
/-- A function value that says whether two bundles are alike. -/
def SaysKp (P : Program) (f : FuncId) : Prop := ∀ (W : World) (a b : Kp) (A : Option Addr) (n c : Nat) (A2 : Option Addr) (n2 c2 : Nat) (A3 : Option Addr) (n3 c3 : Nat) (B : Option Addr) (m e : Nat) (B2 : Option Addr) (m2 e2 : Nat) (B3 : Option Addr) (m3 e3 : Nat),
  Byt W (LT W.heap.size) A n c a.cargo → Sys_ W (LT W.heap.size) A2 n2 c2 a.syms → Tks W (LT W.heap.size) A3 n3 c3 a.took → Byt W (LT W.heap.size) B m e b.cargo → Sys_ W (LT W.heap.size) B2 m2 e2 b.syms → Tks W (LT W.heap.size) B3 m3 e3 b.took →
  Calls P f #[.agg #[.int .i64 a.h.frm, .int .i64 a.h.seq, .int .i64 a.h.to, .int .i64 a.h.till, .int .i64 a.h.bytes, .int .i64 a.h.block, .bool a.own, .slice A n c, .slice A2 n2 c2, .int .i64 a.shares, .int .i64 a.giving, .int .i64 a.towards, .int .i64 a.try_, .slice A3 n3 c3, .bool a.delivered, .bool a.purged], .agg #[.int .i64 b.h.frm, .int .i64 b.h.seq, .int .i64 b.h.to, .int .i64 b.h.till, .int .i64 b.h.bytes, .int .i64 b.h.block, .bool b.own, .slice B m e, .slice B2 m2 e2, .int .i64 b.shares, .int .i64 b.giving, .int .i64 b.towards, .int .i64 b.try_, .slice B3 m3 e3, .bool b.delivered, .bool b.purged]] W fun r w' => r = .returned (.bool (decide (a = b))) ∧ Fr W w'
set_option maxHeartbeats 1000000 in
theorem equalTk_any (w : World) (A A' : Option Addr) (n c n' c' : Nat) (xs ys : List Tk) (h : Sl 2 eTk w (LT w.heap.size) A n xs) (h' : Sl 2 eTk w (LT w.heap.size) A' n' ys) (hm : n ≤ maxLen) :
    Calls Tryz.prog 74 #[.slice A n c, .slice A' n' c'] w fun e w' => e = .returned (.bool (decide (xs = ys))) ∧ ∃ m, w' = w.drewN m := by
  unfold maxLen at hm
  have H := Lib.hid h
  have H' := Lib.hid h'
  clear h h'
  by_cases hn : n = n'
  · have hne : ((n : Int) != (n' : Int)) = false := by simp [hn]
    have HN : Hid (n = n') := hn
    clear hn
    go_enter Tryz.func74, Tryz.ntmps74
    go_wp2_with fail
    go_loopw [13] (fun i wr => ∃ k m : Nat, k ≤ n ∧ i = .int .i64 k ∧ wr = w.drewN m ∧ Hid (decide (xs = ys) = decide (xs.drop k = ys.drop k))) (fun i _ => n - (intOf i).toNat)
    case atStart => exact ⟨0, 0, Nat.zero_le _, rfl, rfl, rfl⟩
    case round =>
      obtain ⟨k, m, hk, rfl, rfl, HS⟩ := hrel
      by_cases hlt : k < n
      · have hlt' : k < n' := HN.out ▸ hlt
        obtain ⟨ad, rfl, hE⟩ := H.out.els (by omega)
        obtain ⟨ad', rfl, hE'⟩ := H'.out.els (by omega)
        obtain ⟨a, ha, hca⟩ := hE.row hlt
        obtain ⟨b, hb, hcb⟩ := hE'.row hlt'
        obtain ⟨⟨m0, m1⟩, _⟩ := eTk_at hca
        obtain ⟨⟨q0, q1⟩, _⟩ := eTk_at hcb
        have HS' : Hid (decide (xs = ys) = (decide (a = b) && decide (xs.drop (k + 1) = ys.drop (k + 1)))) := drop_eq_cons ha hb HS.out
        obtain ⟨z, hz⟩ : ∃ z, z = decide (a = b) := ⟨_, rfl⟩
        have hqq := fun (V : World) => eqTk a b V
        rw [← hz] at hqq HS'
        clear HS ha hb hE hE' hca hcb hz
        cases z with
        | true =>
          go_wp2_with fail
          go_quiet (fail)
          go_wp2_with fail
          go_roundw
          case rel => exact ⟨k + 1, _, by omega, by go_num, rfl, by rw [Hid, HS'.out]; simp⟩
          case measure => simp [intOf]; omega
        | false =>
          go_wp2_with fail
          go_quiet (fail)
          go_wp2_with fail
          go_ret
          exact ⟨retB (by rw [HS'.out]; simp), drew2 _ _ _⟩
      · have HF : Hid (decide (xs = ys) = true) := by
          have h1 := H.out.1
          have h2 := H'.out.1
          rw [Hid, HS.out, List.drop_eq_nil_of_le (by omega), List.drop_eq_nil_of_le (by have := HN.out; omega)]; rfl
        go_wp2_with fail
        go_ret
        exact ⟨retB HF.out.symm, _, rfl⟩
  · have hne : ((n : Int) != (n' : Int)) = true := by rw [bne_iff_ne]; omega
    have HF : Hid (decide (xs = ys) = false) := by
      rw [Hid, decide_eq_false_iff_not]; rintro rfl; exact hn (H.out.1.symm.trans H'.out.1)
    go_enter Tryz.func74, Tryz.ntmps74
    go_wp2_with fail
    go_ret
    exact ⟨retB HF.out.symm, 0, rfl⟩
set_option maxRecDepth 100000 in
set_option maxHeartbeats 2000000 in
theorem equalFuncSm_any (w : World) (f : FuncId) (hcf : ∀ (args : Array Value) (W : World), (callFunc f args).run Tryz.prog W = .ok (.enter f args) W) (hfn : SaysSm Tryz.prog f) (A A' : Option Addr) (n c n' c' : Nat) (xs ys : List Sm) (h : Sl 2 eSm w (LT w.heap.size) A n xs) (h' : Sl 2 eSm w (LT w.heap.size) A' n' ys) (hm : n ≤ maxLen) :
    Calls Tryz.prog 75 #[.slice A n c, .slice A' n' c', .func (.func f) #[] #[]] w fun e w' => e = .returned (.bool (decide (xs = ys))) ∧ Fr w w' := by
  unfold maxLen at hm
  have H := Lib.hid h
  have H' := Lib.hid h'
  have HFN := Lib.hid hfn
  clear h h' hfn
  by_cases hn : n = n'
  · have hne : ((n : Int) != (n' : Int)) = false := by simp [hn]
    have HN : Hid (n = n') := hn
    clear hn
    go_enter Tryz.func75, Tryz.ntmps75
    go_wp2_with fail
    go_loopw [17] (fun i wr => ∃ k : Nat, k ≤ n ∧ i = .int .i64 k ∧ Hid (Fr w wr) ∧ Hid (decide (xs = ys) = decide (xs.drop k = ys.drop k))) (fun i _ => n - (intOf i).toNat)
    case atStart => exact ⟨0, Nat.zero_le _, rfl, Below.refl _ _, rfl⟩
    case round =>
      obtain ⟨k, hk, rfl, HF, HS⟩ := hrel
      by_cases hlt : k < n
      · have hlt' : k < n' := HN.out ▸ hlt
        obtain ⟨ad, rfl, hE⟩ := (H.out.go sSm HF.out).els (by omega)
        obtain ⟨ad', rfl, hE'⟩ := (H'.out.go sSm HF.out).els (by omega)
        obtain ⟨a, ha, hra⟩ := hE.row hlt
        obtain ⟨b, hb, hrb⟩ := hE'.row hlt'
        obtain ⟨A1, n1, c1, ⟨m0, m1⟩, _, hy1⟩ := eSm_at hra
        obtain ⟨A2, n2, c2, ⟨q0, q1⟩, _, hy2⟩ := eSm_at hrb
        have HS' : Hid (decide (xs = ys) = (decide (a = b) && decide (xs.drop (k + 1) = ys.drop (k + 1)))) := drop_eq_cons ha hb HS.out
        have hlb : (ad'.add (k * 2)).block < wr.heap.size := by rw [block_of_add]; exact hE'.2.1
        clear HS ha hb hE hE' hra hrb
        (have Hy1 := Lib.hid hy1; clear hy1; have Hy2 := Lib.hid hy2; clear hy2)
        go_wp2_with fail
        refine (HFN.out ((wr.alloc (.cells #[.int .i64 a.id, .slice A1 n1 c1] 38)).alloc (.cells #[.int .i64 b.id, .slice A2 n2 c2] 38)) a b _ _ _ _ _ _ (Hy1.out.go (by (repeat' (first | exact Below.refl _ _ | refine below_drewN ?_ _ | refine Below.drew ?_ | refine frA ?_ _)))) (Hy2.out.go (by (repeat' (first | exact Below.refl _ _ | refine below_drewN ?_ _ | refine Below.drew ?_ | refine frA ?_ _))))).mono ?_
        rintro e w1 ⟨rfl, hf1⟩
        have HF1 : Hid (Fr w w1) := Fr.trans (by (repeat' (first | exact Below.refl _ _ | refine below_drewN ?_ _ | refine Below.drew ?_ | refine frA ?_ _ | refine Fr.trans ?_ HF.out))) hf1
        clear hf1 m0 m1 q0 q1
        by_cases hab : a = b
        · have hd : decide (a = b) = true := decide_eq_true hab
          clear hab
          go_wp2_with fail
          go_roundw
          case rel => exact ⟨k + 1, by omega, by go_num, HF1, by rw [Hid, HS'.out, hd]; simp⟩
          case measure => simp [intOf]; omega
        · have hd : decide (a = b) = false := decide_eq_false hab
          clear hab
          go_wp2_with fail
          go_ret
          exact ⟨retB (by rw [HS'.out, hd]; simp), HF1.out⟩
      · have HT : Hid (decide (xs = ys) = true) := by
          have h1 := H.out.1
          have h2 := H'.out.1
          rw [Hid, HS.out, List.drop_eq_nil_of_le (by omega), List.drop_eq_nil_of_le (by have := HN.out; omega)]; rfl
        go_wp2_with fail
        go_ret
        exact ⟨retB HT.out.symm, HF.out⟩
  · have hne : ((n : Int) != (n' : Int)) = true := by rw [bne_iff_ne]; omega
    have HF : Hid (decide (xs = ys) = false) := by
      rw [Hid, decide_eq_false_iff_not]; rintro rfl; exact hn (H.out.1.symm.trans H'.out.1)
    go_enter Tryz.func75, Tryz.ntmps75
    go_wp2_with fail
    go_ret
    exact ⟨retB HF.out.symm, Below.refl _ _⟩

set_option maxRecDepth 100000 in
set_option maxHeartbeats 4000000 in
theorem saysSmK : SaysSm Tryz.prog 76 := by
  intro w a b A n c A2 n2 c2 hA hB
  obtain ⟨W1, hW1⟩ : ∃ W1, W1 = (w.alloc (.cells #[.int .i64 a.id, .slice A n c] 38)).alloc (.cells #[.int .i64 b.id, .slice A2 n2 c2] 38) := ⟨_, rfl⟩
  obtain ⟨p, hp⟩ : ∃ p, p = w.heap.size := ⟨_, rfl⟩
  obtain ⟨q, hq⟩ : ∃ q, q = w.heap.size + 1 := ⟨_, rfl⟩
  have hp1 : W1.heap[p]? = some (.cells #[.int .i64 a.id, .slice A n c] 38 (0, 0)) := by rw [hW1]; exact heap_old (heap_new hp)
  have hq1 : W1.heap[q]? = some (.cells #[.int .i64 b.id, .slice A2 n2 c2] 38 (0, 0)) := by rw [hW1]; exact heap_new (by rw [hq]; simp)
  have HF1 : Hid (Fr w W1) := by rw [hW1]; exact (frAlloc _ _).trans (frAlloc _ _)
  have hn : n ≤ maxLen := by have := hA.1; omega
  obtain ⟨d1, hd1⟩ : ∃ d1, (a.id == b.id) = d1 := ⟨_, rfl⟩
  obtain ⟨d2, hd2⟩ : ∃ d2, d2 = decide (a.data = b.data) := ⟨_, rfl⟩
  have HD : Hid (decide (a = b) = (d1 && d2)) := by
    rw [Hid, ← hd1, hd2]
    obtain ⟨_, _⟩ := a
    obtain ⟨_, _⟩ := b
    simp [Bool.decide_and]
    rfl
  have E2 : Hid (∀ W, Fr w W → Calls Tryz.prog 77 #[.slice A n c, .slice A2 n2 c2] W fun e w' => e = .returned (.bool d2) ∧ Fr W w') := fun W hf => by rw [hd2]; exact (equalBlock_any W _ _ A A2 n c n2 c2 _ _ (hA.2.go sByte hf) (hB.2.go sByte hf) hn).mono fun e w' ⟨he, k, hk⟩ => ⟨he, by rw [hk]; exact frDrewN _ _⟩
  (obtain ⟨bp0, bp1⟩ := box2_ hp1)
  (obtain ⟨bq0, bq1⟩ := box2_ hq1)
  clear hp1 hq1 hA hB hn hd2
  go_enter Tryz.func76, Tryz.ntmps76
  go_upto_region 1 with fail
  rw [← hW1, ← hq, ← hp]
  clear hW1 hp hq
  cases d1 with
  | false =>
    go_wp2_with fail
    go_ret
    exact ⟨by rw [HD.out]; rfl, HF1.out⟩
  | true =>
    go_wp2_with fail
    (with_reducible refine (E2.out _ HF1.out).mono ?_)
    rintro r w3 ⟨rfl, hf3⟩
    have HF3 : Hid (Fr w w3) := HF1.out.trans hf3
    clear hf3
    go_wp2_with fail
    go_ret
    exact ⟨by rw [HD.out]; simp, HF3.out⟩
end Go.Proofs.YtmiaplgfbphfmaaGreatDoor
namespace Go.Proofs.YtmiaplgfbphfmaaGreatDoor
open Go.RowKit

theorem wpList_store_new {P : Program} {ops : Array Oper} {rest : List Oper} {op : Oper} {a : Act} {w : World} {Q : Exit → Act → World → Prop} (n : Nat) (hgd : op.guard = none) (ty : TypeId) (x y : Operand) (ho : op.op = .store ty x y) (c c' : Array Value) (hx : a.eval x = .pointer (some ⟨w.heap.size, 0, none⟩)) (hy : a.eval y = .agg c')
    (hi : (P.info? ty).map (·.size) = some n) (hc : c.size = n) (hc' : c'.size = n) (h1 : c'.all (·.oneCell') = true) (h : wpList P ops Q rest (a.put op.dst undef) (w.alloc (.cells c' ty))) : wpList P ops Q (op :: rest) a (w.alloc (.cells c ty)) :=
  wpList_plain hgd fun K hK => by
    unfold Oper.wp execOp
    simp only [ho, hx, hy, Instr.storeAt, Instr.sureAddr, Sem.run_bind, Sem.run_pure, Result.andThen_ok, run_storeVar_new w ty c c' (by rw [hi, hc']) (hc.trans hc'.symm) h1]
    exact hK _ _ h
theorem run_loadAt_cells {P : Program} (w : World) (q : Addr) (ty : TypeId) (cs : List Value) (d : TypeDesc) (hc : ∀ (j : Nat) v, cs[j]? = some v → w.cell? (q.add j) = some v)
    (hu : P.underlying ty = some d) (hd : d.isRow = true) (hi : (P.info? ty).map (·.size) = some cs.length) : (Instr.loadAt ty (.pointer (some q))).run P w = .ok (.agg cs.toArray) w := by
  have hl : (loadCells q cs.length).run P w = .ok cs.toArray w := run_loadCells_list (P := P) w q cs hc
  have hv : (loadVar ty q).run P w = .ok (.agg cs.toArray) w := by
    cases hq : P.info? ty with
    | none => simp [hq] at hi
    | some i =>
      have hs : i.size = cs.length := by simpa [hq] using hi
      have hagg : (isAgg ty).run P w = .ok true w := by
        unfold isAgg
        rw [Sem.run_bind, run_underlying hu w]
        cases d <;> simp_all
      simp [loadVar, Sem.run_bind, hagg, sizeOf, typeInfo, hq, hs, hl]
  simp only [Instr.loadAt, Instr.sureAddr, Sem.run_bind, Sem.run_pure, Result.andThen_ok, hv]
theorem blk_cs {w : World} {g : Nat} {cs : List Value} {t : TypeId} {fr : Nat × Nat} (h : w.heap[g]? = some (.cells cs.toArray t fr)) : ∀ (j : Nat) v, cs[j]? = some v → w.cell? ((⟨g, 0, none⟩ : Addr).add j) = some v := fun j v hv => by
  rw [zero_add_addr, cell_of_heap h]; simpa using hv
/-- A struct loaded whole. -/
theorem wpList_load_cells {P : Program} {ops : Array Oper} {rest : List Oper} {op : Oper} {a : Act} {w : World} {Q : Exit → Act → World → Prop} (n : Nat) (hgd : op.guard = none) (ty : TypeId) (x : Operand) (ho : op.op = .load ty x) (q : Addr) (hx : a.eval x = .pointer (some q)) (cs : List Value) (hc : ∀ (j : Nat) v, cs[j]? = some v → w.cell? (q.add j) = some v)
    (d : TypeDesc) (hu : P.underlying ty = some d) (hd : d.isRow = true) (hi : (P.info? ty).map (·.size) = some n) (hn : cs.length = n) (h : wpList P ops Q rest (a.put op.dst (.agg cs.toArray)) w) : wpList P ops Q (op :: rest) a w :=
  wpList_plain hgd fun K hK => by
    have hr := run_loadAt_cells (P := P) w q ty cs d hc hu hd (by rw [hi, hn])
    simp only [Instr.loadAt, Instr.sureAddr, Sem.run_bind, Sem.run_pure, Result.andThen_ok] at hr
    unfold Oper.wp execOp
    simp only [ho, hx, Instr.loadAt, Instr.sureAddr, Sem.run_bind, Sem.run_pure, Result.andThen_ok, hr]
    exact hK _ _ h
end Go.Proofs.YtmiaplgfbphfmaaGreatDoor
namespace Go.Proofs.YtmiaplgfbphfmaaGreatDoor
open Go.RowKit
attribute [local irreducible] wpList

/-- The cells of a bundle. -/
theorem eKp_cs {w : World} {S : Nat → Prop} {q : Addr} {x : Kp} (h : eKp w S (fun j => w.cell? (q.add j)) x) : ∃ A n c A2 n2 c2 A3 n3 c3, (∀ (j : Nat) v, ([.int .i64 x.h.frm, .int .i64 x.h.seq, .int .i64 x.h.to, .int .i64 x.h.till, .int .i64 x.h.bytes, .int .i64 x.h.block, .bool x.own, .slice A n c, .slice A2 n2 c2, .int .i64 x.shares, .int .i64 x.giving, .int .i64 x.towards, .int .i64 x.try_, .slice A3 n3 c3, .bool x.delivered, .bool x.purged] : List Value)[j]? = some v → w.cell? (q.add j) = some v) ∧ x.wf ∧ Byt w S A n c x.cargo ∧ Sys_ w S A2 n2 c2 x.syms ∧ Tks w S A3 n3 c3 x.took := by
  obtain ⟨A, n, c, A2, n2, c2, A3, n3, c3, ⟨c0, c1, c2', c3', c4, c5, c6, c7, c8, c9, c10, c11, c12, c13, c14, c15⟩, hr⟩ := eKp_iff.1 h
  refine ⟨A, n, c, A2, n2, c2, A3, n3, c3, fun j v hv => ?_, hr⟩
  match j, hv with
  | 0, hv => simp only [List.getElem?_cons_succ, List.getElem?_cons_zero, Option.some.injEq] at hv; subst hv; exact c0
  | 1, hv => simp only [List.getElem?_cons_succ, List.getElem?_cons_zero, Option.some.injEq] at hv; subst hv; exact c1
  | 2, hv => simp only [List.getElem?_cons_succ, List.getElem?_cons_zero, Option.some.injEq] at hv; subst hv; exact c2'
  | 3, hv => simp only [List.getElem?_cons_succ, List.getElem?_cons_zero, Option.some.injEq] at hv; subst hv; exact c3'
  | 4, hv => simp only [List.getElem?_cons_succ, List.getElem?_cons_zero, Option.some.injEq] at hv; subst hv; exact c4
  | 5, hv => simp only [List.getElem?_cons_succ, List.getElem?_cons_zero, Option.some.injEq] at hv; subst hv; exact c5
  | 6, hv => simp only [List.getElem?_cons_succ, List.getElem?_cons_zero, Option.some.injEq] at hv; subst hv; exact c6
  | 7, hv => simp only [List.getElem?_cons_succ, List.getElem?_cons_zero, Option.some.injEq] at hv; subst hv; exact c7
  | 8, hv => simp only [List.getElem?_cons_succ, List.getElem?_cons_zero, Option.some.injEq] at hv; subst hv; exact c8
  | 9, hv => simp only [List.getElem?_cons_succ, List.getElem?_cons_zero, Option.some.injEq] at hv; subst hv; exact c9
  | 10, hv => simp only [List.getElem?_cons_succ, List.getElem?_cons_zero, Option.some.injEq] at hv; subst hv; exact c10
  | 11, hv => simp only [List.getElem?_cons_succ, List.getElem?_cons_zero, Option.some.injEq] at hv; subst hv; exact c11
  | 12, hv => simp only [List.getElem?_cons_succ, List.getElem?_cons_zero, Option.some.injEq] at hv; subst hv; exact c12
  | 13, hv => simp only [List.getElem?_cons_succ, List.getElem?_cons_zero, Option.some.injEq] at hv; subst hv; exact c13
  | 14, hv => simp only [List.getElem?_cons_succ, List.getElem?_cons_zero, Option.some.injEq] at hv; subst hv; exact c14
  | 15, hv => simp only [List.getElem?_cons_succ, List.getElem?_cons_zero, Option.some.injEq] at hv; subst hv; exact c15
  | j + 16, hv => simp at hv

set_option maxRecDepth 100000 in
set_option maxHeartbeats 2000000 in
theorem equalFuncKp_any (w : World) (f : FuncId) (hcf : ∀ (args : Array Value) (W : World), (callFunc f args).run Tryz.prog W = .ok (.enter f args) W) (hfn : SaysKp Tryz.prog f) (A A' : Option Addr) (n c n' c' : Nat) (xs ys : List Kp) (h : Sl 16 eKp w (LT w.heap.size) A n xs) (h' : Sl 16 eKp w (LT w.heap.size) A' n' ys) (hm : n ≤ maxLen) :
    Calls Tryz.prog 72 #[.slice A n c, .slice A' n' c', .func (.func f) #[] #[]] w fun e w' => e = .returned (.bool (decide (xs = ys))) ∧ Fr w w' := by
  unfold maxLen at hm
  have H := Lib.hid h
  have H' := Lib.hid h'
  have HFN := Lib.hid hfn
  clear h h' hfn
  by_cases hn : n = n'
  · have hne : ((n : Int) != (n' : Int)) = false := by simp [hn]
    have HN : Hid (n = n') := hn
    clear hn
    go_enter Tryz.func72, Tryz.ntmps72
    go_wp2_with fail
    go_loopw [17] (fun i wr => ∃ k : Nat, k ≤ n ∧ i = .int .i64 k ∧ Hid (Fr w wr) ∧ Hid (decide (xs = ys) = decide (xs.drop k = ys.drop k))) (fun i _ => n - (intOf i).toNat)
    case atStart => exact ⟨0, Nat.zero_le _, rfl, Below.refl _ _, rfl⟩
    case round =>
      obtain ⟨k, hk, rfl, HF, HS⟩ := hrel
      by_cases hlt : k < n
      · have hlt' : k < n' := HN.out ▸ hlt
        obtain ⟨ad, rfl, hE⟩ := (H.out.go sKp HF.out).els (by omega)
        obtain ⟨a, ha, hra⟩ := hE.row hlt
        obtain ⟨A1, n1, c1, D1, n3, c3, E1, n5, c5, hcs1, _, hy1, hs1, ht1⟩ := eKp_cs hra
        (have Hy1 := Lib.hid hy1; clear hy1; have Hs1 := Lib.hid hs1; clear hs1; have Ht1 := Lib.hid ht1; clear ht1; have Ha := Lib.hid ha; clear ha; have Hcs1 := Lib.hid hcs1; clear hcs1)
        clear hE hra
        go_upto_region 6 with (first | (refine wpList_load_cells 16 rfl 96 _ rfl _ rfl _ Hcs1.out _ Tryz.underlying96 rfl (by kernel_rfl) rfl ?_) | (refine wpList_store_new 16 rfl 96 _ _ rfl _ _ rfl rfl (by kernel_rfl) rfl rfl (by simp [Value.oneCell']) ?_))
        obtain ⟨W5, hW5⟩ : ∃ W5, W5 = wr.alloc (.cells #[.int .i64 a.h.frm, .int .i64 a.h.seq, .int .i64 a.h.to, .int .i64 a.h.till, .int .i64 a.h.bytes, .int .i64 a.h.block, .bool a.own, .slice A1 n1 c1, .slice D1 n3 c3, .int .i64 a.shares, .int .i64 a.giving, .int .i64 a.towards, .int .i64 a.try_, .slice E1 n5 c5, .bool a.delivered, .bool a.purged] 96) := ⟨_, rfl⟩
        obtain ⟨g5, hg5⟩ : ∃ g5, g5 = wr.heap.size := ⟨_, rfl⟩
        have HB5 : Hid (W5.heap[g5]? = some (.cells #[.int .i64 a.h.frm, .int .i64 a.h.seq, .int .i64 a.h.to, .int .i64 a.h.till, .int .i64 a.h.bytes, .int .i64 a.h.block, .bool a.own, .slice A1 n1 c1, .slice D1 n3 c3, .int .i64 a.shares, .int .i64 a.giving, .int .i64 a.towards, .int .i64 a.try_, .slice E1 n5 c5, .bool a.delivered, .bool a.purged] 96 (0, 0))) := by rw [hW5]; exact heap_new hg5
        have HF5 : Hid (Fr wr W5) := by rw [hW5]; exact frAlloc _ _
        rw [← hW5, ← hg5]
        clear hW5 hg5 Hcs1
        obtain ⟨ad', rfl, hE'⟩ := (H'.out.go sKp (HF.out.trans HF5.out)).els (by omega)
        obtain ⟨b, hb, hrb⟩ := hE'.row hlt'
        obtain ⟨A2, n2, c2, D2, n4, c4, E2, n6, c6, hcs2, _, hy2, hs2, ht2⟩ := eKp_cs hrb
        have HS' : Hid (decide (xs = ys) = (decide (a = b) && decide (xs.drop (k + 1) = ys.drop (k + 1)))) := drop_eq_cons Ha.out hb HS.out
        (have Hy2 := Lib.hid hy2; clear hy2; have Hs2 := Lib.hid hs2; clear hs2; have Ht2 := Lib.hid ht2; clear ht2; have Hcs2 := Lib.hid hcs2; clear hcs2)
        clear HS hE' hrb hb Ha
        go_upto_region 7 with (first | (refine wpList_load_cells 16 rfl 96 _ rfl _ rfl _ Hcs2.out _ Tryz.underlying96 rfl (by kernel_rfl) rfl ?_) | (refine wpList_store_new 16 rfl 96 _ _ rfl _ _ rfl rfl (by kernel_rfl) rfl rfl (by simp [Value.oneCell']) ?_))
        obtain ⟨W6, hW6⟩ : ∃ W6, W6 = W5.alloc (.cells #[.int .i64 b.h.frm, .int .i64 b.h.seq, .int .i64 b.h.to, .int .i64 b.h.till, .int .i64 b.h.bytes, .int .i64 b.h.block, .bool b.own, .slice A2 n2 c2, .slice D2 n4 c4, .int .i64 b.shares, .int .i64 b.giving, .int .i64 b.towards, .int .i64 b.try_, .slice E2 n6 c6, .bool b.delivered, .bool b.purged] 96) := ⟨_, rfl⟩
        obtain ⟨g6, hg6⟩ : ∃ g6, g6 = W5.heap.size := ⟨_, rfl⟩
        have hb6 : W6.heap[g6]? = some (.cells #[.int .i64 b.h.frm, .int .i64 b.h.seq, .int .i64 b.h.to, .int .i64 b.h.till, .int .i64 b.h.bytes, .int .i64 b.h.block, .bool b.own, .slice A2 n2 c2, .slice D2 n4 c4, .int .i64 b.shares, .int .i64 b.giving, .int .i64 b.towards, .int .i64 b.try_, .slice E2 n6 c6, .bool b.delivered, .bool b.purged] 96 (0, 0)) := by rw [hW6]; exact heap_new hg6
        have HF6 : Hid (Fr W5 W6) := by rw [hW6]; exact frAlloc _ _
        have hb5 := blk_go HB5.out HF6.out
        rw [← hW6, ← hg6]
        clear hW6 hg6 HB5 Hcs2
        (have Hb5 := Lib.hid hb5; clear hb5; have Hb6 := Lib.hid hb6; clear hb6)
        have CAL := Lib.hid (HFN.out W6 a b A1 n1 c1 D1 n3 c3 E1 n5 c5 A2 n2 c2 D2 n4 c4 E2 n6 c6 (Hy1.out.go (HF5.out.trans HF6.out)) (Hs1.out.go (HF5.out.trans HF6.out)) (Ht1.out.go (HF5.out.trans HF6.out)) (Hy2.out.go HF6.out) (Hs2.out.go HF6.out) (Ht2.out.go HF6.out))
        have HF7 : Hid (Fr w W6) := HF.out.trans (HF5.out.trans HF6.out)
        clear Hy1 Hs1 Ht1 Hy2 Hs2 Ht2
        go_wp2_with (first | (refine wpList_load_cells 16 rfl 96 _ rfl _ rfl _ (blk_cs Hb5.out) _ Tryz.underlying96 rfl (by kernel_rfl) rfl ?_) | (refine wpList_load_cells 16 rfl 96 _ rfl _ rfl _ (blk_cs Hb6.out) _ Tryz.underlying96 rfl (by kernel_rfl) rfl ?_))
        (with_reducible refine (CAL.out).mono ?_)
        rintro e w1 ⟨rfl, hf1⟩
        have HF1 : Hid (Fr w w1) := HF7.out.trans hf1
        clear hf1 CAL Hb5 Hb6
        by_cases hab : a = b
        · have hd : decide (a = b) = true := decide_eq_true hab
          clear hab
          go_wp2_with fail
          go_roundw
          case rel => exact ⟨k + 1, by omega, by go_num, HF1, by rw [Hid, HS'.out, hd]; simp⟩
          case measure => simp [intOf]; omega
        · have hd : decide (a = b) = false := decide_eq_false hab
          clear hab
          go_wp2_with fail
          go_ret
          exact ⟨retB (by rw [HS'.out, hd]; simp), HF1.out⟩
      · have HT : Hid (decide (xs = ys) = true) := by
          have h1 := H.out.1
          have h2 := H'.out.1
          rw [Hid, HS.out, List.drop_eq_nil_of_le (by omega), List.drop_eq_nil_of_le (by have := HN.out; omega)]; rfl
        go_wp2_with fail
        go_ret
        exact ⟨retB HT.out.symm, HF.out⟩
  · have hne : ((n : Int) != (n' : Int)) = true := by rw [bne_iff_ne]; omega
    have HF : Hid (decide (xs = ys) = false) := by
      rw [Hid, decide_eq_false_iff_not]; rintro rfl; exact hn (H.out.1.symm.trans H'.out.1)
    go_enter Tryz.func72, Tryz.ntmps72
    go_wp2_with fail
    go_ret
    exact ⟨retB HF.out.symm, Below.refl _ _⟩

end Go.Proofs.YtmiaplgfbphfmaaGreatDoor
namespace Go.Proofs.YtmiaplgfbphfmaaGreatDoor
open Go.RowKit
attribute [local irreducible] wpList

theorem entersSmK : ∀ (args : Array Value) (W : World), (callFunc 76 args).run Tryz.prog W = .ok (.enter 76 args) W :=
  entersW Tryz.func76 (by kernel_rfl) (by kernel_rfl)
theorem entersKpK : ∀ (args : Array Value) (W : World), (callFunc 73 args).run Tryz.prog W = .ok (.enter 73 args) W :=
  entersW Tryz.func73 (by kernel_rfl) (by kernel_rfl)
theorem bV_false {x : Bool} (h : x = false) : (Ending.returned (.bool false)) = .returned (.bool x) := by rw [h]
theorem bV_true {x : Bool} (h : x = true) : (Ending.returned (.bool true)) = .returned (.bool x) := by rw [h]
set_option maxRecDepth 100000 in
set_option maxHeartbeats 16000000 in
theorem saysKpK : SaysKp Tryz.prog 73 := by
  intro w a b A n c A2 n2 c2 A3 n3 c3 B m e B2 m2 e2 B3 m3 e3 hA hA2 hA3 hB hB2 hB3
  obtain ⟨X, hX⟩ : ∃ X, X = decide (a = b) := ⟨_, rfl⟩
  rw [← hX]
  obtain ⟨W1, hW1⟩ : ∃ W1, W1 = (w.alloc (.cells #[.int .i64 a.h.frm, .int .i64 a.h.seq, .int .i64 a.h.to, .int .i64 a.h.till, .int .i64 a.h.bytes, .int .i64 a.h.block, .bool a.own, .slice A n c, .slice A2 n2 c2, .int .i64 a.shares, .int .i64 a.giving, .int .i64 a.towards, .int .i64 a.try_, .slice A3 n3 c3, .bool a.delivered, .bool a.purged] 96)).alloc (.cells #[.int .i64 b.h.frm, .int .i64 b.h.seq, .int .i64 b.h.to, .int .i64 b.h.till, .int .i64 b.h.bytes, .int .i64 b.h.block, .bool b.own, .slice B m e, .slice B2 m2 e2, .int .i64 b.shares, .int .i64 b.giving, .int .i64 b.towards, .int .i64 b.try_, .slice B3 m3 e3, .bool b.delivered, .bool b.purged] 96) := ⟨_, rfl⟩
  obtain ⟨p, hp⟩ : ∃ p, p = w.heap.size := ⟨_, rfl⟩
  obtain ⟨q, hq⟩ : ∃ q, q = w.heap.size + 1 := ⟨_, rfl⟩
  have hp1 : W1.heap[p]? = some (.cells #[.int .i64 a.h.frm, .int .i64 a.h.seq, .int .i64 a.h.to, .int .i64 a.h.till, .int .i64 a.h.bytes, .int .i64 a.h.block, .bool a.own, .slice A n c, .slice A2 n2 c2, .int .i64 a.shares, .int .i64 a.giving, .int .i64 a.towards, .int .i64 a.try_, .slice A3 n3 c3, .bool a.delivered, .bool a.purged] 96 (0, 0)) := by rw [hW1]; exact heap_old (heap_new hp)
  have hq1 : W1.heap[q]? = some (.cells #[.int .i64 b.h.frm, .int .i64 b.h.seq, .int .i64 b.h.to, .int .i64 b.h.till, .int .i64 b.h.bytes, .int .i64 b.h.block, .bool b.own, .slice B m e, .slice B2 m2 e2, .int .i64 b.shares, .int .i64 b.giving, .int .i64 b.towards, .int .i64 b.try_, .slice B3 m3 e3, .bool b.delivered, .bool b.purged] 96 (0, 0)) := by rw [hW1]; exact heap_new (by rw [hq]; simp)
  have HF : Hid (Fr w W1) := by rw [hW1]; exact (frAlloc _ _).trans (frAlloc _ _)
  have HQ := Lib.hid hq1
  have HP := Lib.hid hp1
  (obtain ⟨bp0, bp1, bp2, bp3, bp4, bp5, bp6, bp7, bp8, bp9, bp10, bp11, bp12, bp13, bp14, bp15⟩ := box16_ hp1)
  (obtain ⟨bq0, bq1, bq2, bq3, bq4, bq5, bq6, bq7, bq8, bq9, bq10, bq11, bq12, bq13, bq14, bq15⟩ := box16_ hq1)
  clear hp1 hq1
  have E1 : Hid (∀ W, Fr w W → Calls Tryz.prog 46 #[.slice A n c, .slice B m e] W fun r w' => r = .returned (.bool (decide (a.cargo = b.cargo))) ∧ Fr W w') := fun W hf => (equalBytes_any W _ _ A B n c m e _ _ (hA.2.go sByte hf) (hB.2.go sByte hf) (by have := hA.1; omega)).mono fun r w' ⟨hr, k, hk⟩ => ⟨hr, by rw [hk]; exact frDrewN _ _⟩
  have E2 : Hid (∀ W, Fr w W → Calls Tryz.prog 74 #[.slice A3 n3 c3, .slice B3 m3 e3] W fun r w' => r = .returned (.bool (decide (a.took = b.took))) ∧ Fr W w') := fun W hf => (equalTk_any W A3 B3 n3 c3 m3 e3 _ _ (hA3.2.go sTk hf) (hB3.2.go sTk hf) (by have := hA3.1; omega)).mono fun r w' ⟨hr, k, hk⟩ => ⟨hr, by rw [hk]; exact frDrewN _ _⟩
  have E3 : Hid (∀ W, Fr w W → Calls Tryz.prog 75 #[.slice A2 n2 c2, .slice B2 m2 e2, .func (.func 76) #[] #[]] W fun r w' => r = .returned (.bool (decide (a.syms = b.syms))) ∧ Fr W w') := fun W hf => equalFuncSm_any W _ entersSmK saysSmK A2 B2 n2 c2 m2 e2 _ _ (hA2.2.go sSm hf) (hB2.2.go sSm hf) (by have := hA2.1; omega)
  have hne : ∀ {c : Prop}, (a = b → c) → ¬ c → Hid (X = false) := fun h1 h2 => by rw [Hid, hX]; exact decide_eq_false fun e => h2 (h1 e)
  have HXX := Lib.hid hX
  clear hX hA hA2 hA3 hB hB2 hB3
  obtain ⟨dc, hdc⟩ : ∃ dc, dc = decide (a.cargo = b.cargo) := ⟨_, rfl⟩
  obtain ⟨dt, hdt⟩ : ∃ dt, dt = decide (a.took = b.took) := ⟨_, rfl⟩
  obtain ⟨ds, hds⟩ : ∃ ds, ds = decide (a.syms = b.syms) := ⟨_, rfl⟩
  rw [← hdc] at E1
  rw [← hdt] at E2
  rw [← hds] at E3
  have HDC := Lib.hid hdc
  have HDT := Lib.hid hdt
  have HDS := Lib.hid hds
  clear hdc hdt hds
  go_enter Tryz.func73, Tryz.ntmps73
  go_upto_region 1 with fail
  rw [← hW1, ← hq, ← hp]
  clear hW1 hp hq
  by_cases h1 : a.h = b.h
  case neg =>
    have hq := fun V => (eqHd a.h b.h V).trans (by rw [decide_eq_false h1])
    have HX := hne (c := a.h = b.h) (fun e => by rw [e]) h1
    clear h1
    clear hne
    go_wp2_with fail
    go_ret
    exact ⟨bV_false HX.out, HF.out⟩
  case pos =>
  have hq := fun V => (eqHd a.h b.h V).trans (by rw [decide_eq_true h1])
  have H1 := Lib.hid h1
  clear h1
  by_cases h2 : a.own = b.own
  case neg =>
    have t2 : (a.own == b.own) = false := by simp [h2]
    have HX := hne (c := a.own = b.own) (fun e => by rw [e]) h2
    clear h2
    clear hne
    go_wp2_with fail
    go_ret
    exact ⟨bV_false HX.out, HF.out⟩
  case pos =>
  have t2 : (a.own == b.own) = true := by simp [h2]
  have H2 := Lib.hid h2
  clear h2
  go_wp2_with fail
  (with_reducible refine (E1.out _ HF.out).mono ?_)
  rintro r w2 ⟨rfl, hf2⟩
  have HG : Hid (Fr w w2) := HF.out.trans hf2
  clear HF
  have HF := HG
  clear HG
  have hq2 := blk_go HQ.out hf2
  have hp2 := blk_go HP.out hf2
  have HQ' := Lib.hid hq2
  have HP' := Lib.hid hp2
  clear HQ HP hf2 E1 bp0 bp1 bp2 bp3 bp4 bp5 bp6 bp7 bp8 bp9 bp10 bp11 bp12 bp13 bp14 bp15 bq0 bq1 bq2 bq3 bq4 bq5 bq6 bq7 bq8 bq9 bq10 bq11 bq12 bq13 bq14 bq15
  have HQ := HQ'
  have HP := HP'
  clear HQ' HP'
  (obtain ⟨bp0, bp1, bp2, bp3, bp4, bp5, bp6, bp7, bp8, bp9, bp10, bp11, bp12, bp13, bp14, bp15⟩ := box16_ hp2)
  (obtain ⟨bq0, bq1, bq2, bq3, bq4, bq5, bq6, bq7, bq8, bq9, bq10, bq11, bq12, bq13, bq14, bq15⟩ := box16_ hq2)
  clear hp2 hq2
  cases dc with
  | false =>
    have HX := hne (c := a.cargo = b.cargo) (fun e => by rw [e]) (of_decide_eq_false HDC.out.symm)
    clear hne
    go_wp2_with fail
    go_ret
    exact ⟨bV_false HX.out, HF.out⟩
  | true =>
  have H3 := Lib.hid (of_decide_eq_true HDC.out.symm)
  by_cases h4 : a.shares = b.shares
  case neg =>
    have t4 : (a.shares == b.shares) = false := by simp [h4]
    have HX := hne (c := a.shares = b.shares) (fun e => by rw [e]) h4
    clear h4
    clear hne
    go_wp2_with fail
    go_ret
    exact ⟨bV_false HX.out, HF.out⟩
  case pos =>
  have t4 : (a.shares == b.shares) = true := by simp [h4]
  have H4 := Lib.hid h4
  clear h4
  by_cases h5 : a.giving = b.giving
  case neg =>
    have t5 : (a.giving == b.giving) = false := by simp [h5]
    have HX := hne (c := a.giving = b.giving) (fun e => by rw [e]) h5
    clear h5
    clear hne
    go_wp2_with fail
    go_ret
    exact ⟨bV_false HX.out, HF.out⟩
  case pos =>
  have t5 : (a.giving == b.giving) = true := by simp [h5]
  have H5 := Lib.hid h5
  clear h5
  by_cases h6 : a.towards = b.towards
  case neg =>
    have t6 : (a.towards == b.towards) = false := by simp [h6]
    have HX := hne (c := a.towards = b.towards) (fun e => by rw [e]) h6
    clear h6
    clear hne
    go_wp2_with fail
    go_ret
    exact ⟨bV_false HX.out, HF.out⟩
  case pos =>
  have t6 : (a.towards == b.towards) = true := by simp [h6]
  have H6 := Lib.hid h6
  clear h6
  by_cases h7 : a.try_ = b.try_
  case neg =>
    have t7 : (a.try_ == b.try_) = false := by simp [h7]
    have HX := hne (c := a.try_ = b.try_) (fun e => by rw [e]) h7
    clear h7
    clear hne
    go_wp2_with fail
    go_ret
    exact ⟨bV_false HX.out, HF.out⟩
  case pos =>
  have t7 : (a.try_ == b.try_) = true := by simp [h7]
  have H7 := Lib.hid h7
  clear h7
  go_wp2_with fail
  (with_reducible refine (E2.out _ HF.out).mono ?_)
  rintro r w3 ⟨rfl, hf3⟩
  have HG : Hid (Fr w w3) := HF.out.trans hf3
  clear HF
  have HF := HG
  clear HG
  have hq3 := blk_go HQ.out hf3
  have hp3 := blk_go HP.out hf3
  have HQ' := Lib.hid hq3
  have HP' := Lib.hid hp3
  clear HQ HP hf3 E2 bp0 bp1 bp2 bp3 bp4 bp5 bp6 bp7 bp8 bp9 bp10 bp11 bp12 bp13 bp14 bp15 bq0 bq1 bq2 bq3 bq4 bq5 bq6 bq7 bq8 bq9 bq10 bq11 bq12 bq13 bq14 bq15
  have HQ := HQ'
  have HP := HP'
  clear HQ' HP'
  (obtain ⟨bp0, bp1, bp2, bp3, bp4, bp5, bp6, bp7, bp8, bp9, bp10, bp11, bp12, bp13, bp14, bp15⟩ := box16_ hp3)
  (obtain ⟨bq0, bq1, bq2, bq3, bq4, bq5, bq6, bq7, bq8, bq9, bq10, bq11, bq12, bq13, bq14, bq15⟩ := box16_ hq3)
  clear hp3 hq3
  cases dt with
  | false =>
    have HX := hne (c := a.took = b.took) (fun e => by rw [e]) (of_decide_eq_false HDT.out.symm)
    clear hne
    go_wp2_with fail
    go_ret
    exact ⟨bV_false HX.out, HF.out⟩
  | true =>
  have H8 := Lib.hid (of_decide_eq_true HDT.out.symm)
  by_cases h9 : a.delivered = b.delivered
  case neg =>
    have t9 : (a.delivered == b.delivered) = false := by simp [h9]
    have HX := hne (c := a.delivered = b.delivered) (fun e => by rw [e]) h9
    clear h9
    clear hne
    go_wp2_with fail
    go_ret
    exact ⟨bV_false HX.out, HF.out⟩
  case pos =>
  have t9 : (a.delivered == b.delivered) = true := by simp [h9]
  have H9 := Lib.hid h9
  clear h9
  by_cases h10 : a.purged = b.purged
  case neg =>
    have t10 : (a.purged == b.purged) = false := by simp [h10]
    have HX := hne (c := a.purged = b.purged) (fun e => by rw [e]) h10
    clear h10
    clear hne
    go_wp2_with fail
    go_ret
    exact ⟨bV_false HX.out, HF.out⟩
  case pos =>
  have t10 : (a.purged == b.purged) = true := by simp [h10]
  have H10 := Lib.hid h10
  clear h10
  have HALL : Hid (X = ds) := by
    rw [Hid, HXX.out, HDS.out]
    obtain ⟨_, _, _, _, _, _, _, _, _, _, _⟩ := a
    obtain ⟨_, _, _, _, _, _, _, _, _, _, _⟩ := b
    have g1 := H1.out
    have g2 := H2.out
    have g3 := H3.out
    have g4 := H4.out
    have g5 := H5.out
    have g6 := H6.out
    have g7 := H7.out
    have g8 := H8.out
    have g9 := H9.out
    have g10 := H10.out
    simp only at g1 g2 g3 g4 g5 g6 g7 g8 g9 g10
    subst g1 g2 g3 g4 g5 g6 g7 g8 g9 g10
    simp
  clear hne
  go_wp2_with fail
  (with_reducible refine (E3.out _ HF.out).mono ?_)
  rintro r w4 ⟨rfl, hf4⟩
  have HF4 : Hid (Fr w w4) := HF.out.trans hf4
  clear hf4
  cases ds with
  | false =>
    go_wp2_with fail
    go_ret
    exact ⟨bV_false HALL.out, HF4.out⟩
  | true =>
    go_wp2_with fail
    go_ret
    exact ⟨bV_true HALL.out, HF4.out⟩

set_option maxRecDepth 100000 in
set_option maxHeartbeats 8000000 in
/-- keep.Same. -/
theorem keepSame_any (w : World) (a b : Pc) (A : Option Addr) (n c : Nat) (B : Option Addr) (m e : Nat) (hA : Sl 16 eKp w (LT w.heap.size) A n a.keep) (hB : Sl 16 eKp w (LT w.heap.size) B m b.keep) (hn : n ≤ maxLen) :
    Calls Tryz.prog 21 #[.agg #[.int .i64 a.me, .slice A n c, .int .i64 a.time, .int .i64 a.seq], .agg #[.int .i64 b.me, .slice B m e, .int .i64 b.time, .int .i64 b.seq]] w fun r w' => r = .returned (.bool (decide (a = b))) ∧ Fr w w' := by
  obtain ⟨X, hX⟩ : ∃ X, X = decide (a = b) := ⟨_, rfl⟩
  rw [← hX]
  obtain ⟨W1, hW1⟩ : ∃ W1, W1 = (w.alloc (.cells #[.int .i64 a.me, .slice A n c, .int .i64 a.time, .int .i64 a.seq] 25)).alloc (.cells #[.int .i64 b.me, .slice B m e, .int .i64 b.time, .int .i64 b.seq] 25) := ⟨_, rfl⟩
  obtain ⟨p, hp⟩ : ∃ p, p = w.heap.size := ⟨_, rfl⟩
  obtain ⟨q, hq⟩ : ∃ q, q = w.heap.size + 1 := ⟨_, rfl⟩
  have hp1 : W1.heap[p]? = some (.cells #[.int .i64 a.me, .slice A n c, .int .i64 a.time, .int .i64 a.seq] 25 (0, 0)) := by rw [hW1]; exact heap_old (heap_new hp)
  have hq1 : W1.heap[q]? = some (.cells #[.int .i64 b.me, .slice B m e, .int .i64 b.time, .int .i64 b.seq] 25 (0, 0)) := by rw [hW1]; exact heap_new (by rw [hq]; simp)
  have HF : Hid (Fr w W1) := by rw [hW1]; exact (frAlloc _ _).trans (frAlloc _ _)
  (obtain ⟨bp0, bp1, bp2, bp3⟩ := box4_ hp1)
  (obtain ⟨bq0, bq1, bq2, bq3⟩ := box4_ hq1)
  clear hp1 hq1
  obtain ⟨ds, hds⟩ : ∃ ds, ds = decide (a.keep = b.keep) := ⟨_, rfl⟩
  have E3 : Hid (∀ W, Fr w W → Calls Tryz.prog 72 #[.slice A n c, .slice B m e, .func (.func 73) #[] #[]] W fun r w' => r = .returned (.bool ds) ∧ Fr W w') := fun W hf => by rw [hds]; exact equalFuncKp_any W _ entersKpK saysKpK A B n c m e _ _ (hA.go sKp hf) (hB.go sKp hf) hn
  have hne : ∀ {c : Prop}, (a = b → c) → ¬ c → Hid (X = false) := fun h1 h2 => by rw [Hid, hX]; exact decide_eq_false fun e => h2 (h1 e)
  have HXX := Lib.hid hX
  have HDS := Lib.hid hds
  clear hX hds hA hB
  go_enter Tryz.func21, Tryz.ntmps21
  go_upto_region 1 with fail
  rw [← hW1, ← hq, ← hp]
  clear hW1 hp hq
  by_cases h1 : a.me = b.me
  case neg =>
    have t1 : (a.me == b.me) = false := by simp [h1]
    have HX := hne (c := a.me = b.me) (fun e => by rw [e]) h1
    clear h1
    clear hne
    go_wp2_with fail
    go_ret
    exact ⟨bV_false HX.out, HF.out⟩
  case pos =>
  have t1 : (a.me == b.me) = true := by simp [h1]
  have H1 := Lib.hid h1
  clear h1
  by_cases h2 : a.time = b.time
  case neg =>
    have t2 : (a.time == b.time) = false := by simp [h2]
    have HX := hne (c := a.time = b.time) (fun e => by rw [e]) h2
    clear h2
    clear hne
    go_wp2_with fail
    go_ret
    exact ⟨bV_false HX.out, HF.out⟩
  case pos =>
  have t2 : (a.time == b.time) = true := by simp [h2]
  have H2 := Lib.hid h2
  clear h2
  by_cases h3 : a.seq = b.seq
  case neg =>
    have t3 : (a.seq == b.seq) = false := by simp [h3]
    have HX := hne (c := a.seq = b.seq) (fun e => by rw [e]) h3
    clear h3
    clear hne
    go_wp2_with fail
    go_ret
    exact ⟨bV_false HX.out, HF.out⟩
  case pos =>
  have t3 : (a.seq == b.seq) = true := by simp [h3]
  have H3 := Lib.hid h3
  clear h3
  have HALL : Hid (X = ds) := by
    rw [Hid, HXX.out, HDS.out]
    obtain ⟨_, _, _, _⟩ := a
    obtain ⟨_, _, _, _⟩ := b
    have g1 := H1.out
    have g2 := H2.out
    have g3 := H3.out
    simp only at g1 g2 g3
    subst g1 g2 g3
    simp
  clear hne
  go_wp2_with fail
  (with_reducible refine (E3.out _ HF.out).mono ?_)
  rintro r w4 ⟨rfl, hf4⟩
  have HF4 : Hid (Fr w w4) := HF.out.trans hf4
  clear hf4
  cases ds with
  | false =>
    go_wp2_with fail
    go_ret
    exact ⟨bV_false HALL.out, HF4.out⟩
  | true =>
    go_wp2_with fail
    go_ret
    exact ⟨bV_true HALL.out, HF4.out⟩
end Go.Proofs.YtmiaplgfbphfmaaGreatDoor
