/- keep.Copy: bundles in memory of the call's own. No condition. -/
import Derived.Test.YtmiaplgfbphfmaaGreatDoorMPQ
import Derived.Test.YtmiaplgfbphfmaaGreatDoorMPI
import Derived.Test.YtmiaplgfbphfmaaGreatDoorMPB
import Derived.Test.YtmiaplgfbphfmaaGreatDoorMPJ
import Derived.Laws.StructEq
import Derived.KernelRfl
import Derived.Test.YtmiaplgfbphfmaaGreatDoorMPY
import Derived.Laws.Externs
import Derived.Test.YtmiaplgfbphfmaaGreatDoorMPR
import Derived.BigGuardPart
import Derived.Deep.DeepCutAuto
import Derived.Deep.Cut
import Derived.Deep.MidRow
set_option linter.unusedSimpArgs false
set_option linter.unusedVariables false
namespace Go.Proofs.YtmiaplgfbphfmaaGreatDoor
open Go.RowKit

theorem eKp_at {w : World} {S : Nat → Prop} {q : Addr} {x : Kp} (h : eKp w S (fun j => w.cell? (q.add j)) x) : ∃ A n c A2 n2 c2 A3 n3 c3, (w.cell? q = some (.int .i64 x.h.frm) ∧ w.cell? ⟨q.block, q.off + 1, none⟩ = some (.int .i64 x.h.seq) ∧ w.cell? ⟨q.block, q.off + 2, none⟩ = some (.int .i64 x.h.to) ∧ w.cell? ⟨q.block, q.off + 3, none⟩ = some (.int .i64 x.h.till) ∧ w.cell? ⟨q.block, q.off + 4, none⟩ = some (.int .i64 x.h.bytes) ∧ w.cell? ⟨q.block, q.off + 5, none⟩ = some (.int .i64 x.h.block) ∧ w.cell? ⟨q.block, q.off + 6, none⟩ = some (.bool x.own) ∧ w.cell? ⟨q.block, q.off + 7, none⟩ = some (.slice A n c) ∧ w.cell? ⟨q.block, q.off + 8, none⟩ = some (.slice A2 n2 c2) ∧ w.cell? ⟨q.block, q.off + 9, none⟩ = some (.int .i64 x.shares) ∧ w.cell? ⟨q.block, q.off + 10, none⟩ = some (.int .i64 x.giving) ∧ w.cell? ⟨q.block, q.off + 11, none⟩ = some (.int .i64 x.towards) ∧ w.cell? ⟨q.block, q.off + 12, none⟩ = some (.int .i64 x.try_) ∧ w.cell? ⟨q.block, q.off + 13, none⟩ = some (.slice A3 n3 c3) ∧ w.cell? ⟨q.block, q.off + 14, none⟩ = some (.bool x.delivered) ∧ w.cell? ⟨q.block, q.off + 15, none⟩ = some (.bool x.purged)) ∧ x.wf ∧ Byt w S A n c x.cargo ∧ Sys_ w S A2 n2 c2 x.syms ∧ Tks w S A3 n3 c3 x.took := eKp_iff.1 h
theorem eSm_at {w : World} {S : Nat → Prop} {q : Addr} {x : Sm} (h : eSm w S (fun j => w.cell? (q.add j)) x) : ∃ A n c, (w.cell? q = some (.int .i64 x.id) ∧ w.cell? ⟨q.block, q.off + 1, none⟩ = some (.slice A n c)) ∧ wfI x.id ∧ Byt w S A n c x.data := eSm_iff.1 h
theorem eTk_at {w : World} {S : Nat → Prop} {q : Addr} {x : Tk} (h : eTk w S (fun j => w.cell? (q.add j)) x) : (w.cell? q = some (.int .i64 x.place) ∧ w.cell? ⟨q.block, q.off + 1, none⟩ = some (.int .i64 x.try_)) ∧ wfI x.place ∧ wfI x.try_ := eTk_iff.1 h
theorem Sys_.go {w w' : World} {A : Option Addr} {n c : Nat} {l : List Sm} (h : Sys_ w (LT w.heap.size) A n c l) (hb : Fr w w') : Sys_ w' (LT w'.heap.size) A n c l := ⟨h.1, h.2.go sSm hb⟩
theorem Tks.go {w w' : World} {A : Option Addr} {n c : Nat} {l : List Tk} (h : Tks w (LT w.heap.size) A n c l) (hb : Fr w w') : Tks w' (LT w'.heap.size) A n c l := ⟨h.1, h.2.go sTk hb⟩
theorem Sys_.keep {w w' : World} {S : Nat → Prop} {A : Option Addr} {n c : Nat} {l : List Sm} (h : Sys_ w S A n c l) (hk : ∀ p : Addr, S p.block → w'.cell? p = w.cell? p) : Sys_ w' S A n c l := ⟨h.1, h.2.keep sSm hk⟩
theorem Tks.keep {w w' : World} {S : Nat → Prop} {A : Option Addr} {n c : Nat} {l : List Tk} (h : Tks w S A n c l) (hk : ∀ p : Addr, S p.block → w'.cell? p = w.cell? p) : Tks w' S A n c l := ⟨h.1, h.2.keep sTk hk⟩
theorem Sys_.more {w : World} {S S' : Nat → Prop} {A : Option Addr} {n c : Nat} {l : List Sm} (h : Sys_ w S A n c l) (hk : ∀ b, S b → S' b) : Sys_ w S' A n c l := ⟨h.1, h.2.more sSm hk⟩
theorem Tks.more {w : World} {S S' : Nat → Prop} {A : Option Addr} {n c : Nat} {l : List Tk} (h : Tks w S A n c l) (hk : ∀ b, S b → S' b) : Tks w S' A n c l := ⟨h.1, h.2.more sTk hk⟩
/-- What is read of a bundle: its cells, and behind them. -/
structure KpR (w : World) (S : Nat → Prop) (A : Option Addr) (n c : Nat) (A2 : Option Addr) (n2 c2 : Nat) (A3 : Option Addr) (n3 c3 : Nat) (x : Kp) : Prop where
  wf : x.wf
  cargo : Byt w S A n c x.cargo
  syms : Sys_ w S A2 n2 c2 x.syms
  took : Tks w S A3 n3 c3 x.took
theorem KpR.go {w w' : World} {A : Option Addr} {n c : Nat} {A2 : Option Addr} {n2 c2 : Nat} {A3 : Option Addr} {n3 c3 : Nat} {x : Kp} (h : KpR w (LT w.heap.size) A n c A2 n2 c2 A3 n3 c3 x) (hb : Fr w w') : KpR w' (LT w'.heap.size) A n c A2 n2 c2 A3 n3 c3 x := ⟨h.wf, h.cargo.go hb, h.syms.go hb, h.took.go hb⟩
theorem findAt_idx (frm seq : Int) (l : List Kp) : idxF true (l.map fun k => decide (k.h.frm = frm) && decide (k.h.seq = seq)) = findF l frm seq := by
  have gen : ∀ (l : List Kp) (k : Nat), idxAux true (l.map fun k => decide (k.h.frm = frm) && decide (k.h.seq = seq)) k = match findAt frm seq l with
      | some i => ((i + k : Nat) : Int)
      | none => -1 := by
    intro l
    induction l with
    | nil => intro k; rfl
    | cons x l ih =>
      intro k
      unfold findAt
      rw [List.map_cons, idxAux, List.findIdx?_cons]
      by_cases hx : (decide (x.h.frm = frm) && decide (x.h.seq = seq)) = true
      · rw [if_pos hx.symm, if_pos hx]; simp
      · rw [if_neg (fun e => hx e.symm), if_neg hx, ih (k + 1)]
        unfold findAt
        cases List.findIdx? (fun k => decide (k.h.frm = frm) && decide (k.h.seq = seq)) l with
        | none => rfl
        | some i => simp only [Option.map_some]; congr 1; omega
  have := gen l 0
  unfold idxF findF
  rw [this]
  cases findAt frm seq l <;> rfl
theorem idx_any {α : Type} (p : α → Bool) (l : List α) : decide (0 ≤ idxF true (l.map p)) = l.any p := by
  have gen : ∀ (l : List α) (k : Nat), decide (0 ≤ idxAux true (l.map p) k) = l.any p := by
    intro l
    induction l with
    | nil => intro k; rfl
    | cons x l ih =>
      intro k
      rw [List.map_cons, idxAux, List.any_cons]
      by_cases hx : p x = true
      · rw [if_pos hx.symm, hx]; simp
      · rw [if_neg (fun e => hx e.symm), ih (k + 1)]; simp [hx]
  exact gen l 0
end Go.Proofs.YtmiaplgfbphfmaaGreatDoor
namespace Go.Proofs.YtmiaplgfbphfmaaGreatDoor
open Go.RowKit
attribute [local irreducible] wpList


set_option maxHeartbeats 1000000 in
theorem indexFuncKp_any (w : World) (f : FuncId) (caps : Array Value) (hcf : ∀ (args : Array Value) (W : World), (callFunc f args).run Tryz.prog W = .ok (.enter f args) W) (p : Kp → Bool) (hfn : ∀ (W : World) (x : Kp) (A : Option Addr) (n c : Nat) (A2 : Option Addr) (n2 c2 : Nat) (A3 : Option Addr) (n3 c3 : Nat), Fr w W → Calls Tryz.prog f (#[.agg #[.int .i64 x.h.frm, .int .i64 x.h.seq, .int .i64 x.h.to, .int .i64 x.h.till, .int .i64 x.h.bytes, .int .i64 x.h.block, .bool x.own, .slice A n c, .slice A2 n2 c2, .int .i64 x.shares, .int .i64 x.giving, .int .i64 x.towards, .int .i64 x.try_, .slice A3 n3 c3, .bool x.delivered, .bool x.purged]] ++ caps) W fun e w' => e = .returned (.bool (p x)) ∧ Fr W w') (A : Option Addr) (n c : Nat) (xs : List Kp) (h : Sl 16 eKp w (LT w.heap.size) A n xs) (hm : n ≤ maxLen) :
    Calls Tryz.prog 94 #[.slice A n c, .func (.func f) #[] caps] w fun e w' => e = .returned (.int .i64 (idxF true (xs.map p))) ∧ Fr w w' := by
  unfold maxLen at hm
  have H := Lib.hid h
  have HFN := Lib.hid hfn
  clear h hfn
  go_enter Tryz.func94, Tryz.ntmps94
  go_wp2_with fail
  go_loopw [8] (fun i wr => ∃ k : Nat, k ≤ n ∧ i = .int .i64 k ∧ Hid (idxF true (xs.map p) = idxAux true ((xs.map p).drop k) k) ∧ Hid (Fr w wr)) (fun i _ => n - (intOf i).toNat)
  case atStart => exact ⟨0, Nat.zero_le _, rfl, rfl, Below.refl _ _⟩
  case round =>
    obtain ⟨k, hk, rfl, HS, HF⟩ := hrel
    by_cases hlt : k < n
    · obtain ⟨ad, rfl, hE⟩ := (H.out.go sKp HF.out).els (by omega)
      obtain ⟨x, hx, hr⟩ := hE.row hlt
      obtain ⟨B1, a1, b1, B2, a2, b2, B3, a3, b3, hc, _⟩ := eKp_at hr
      obtain ⟨m0, m1, m2, m3, m4, m5, m6, m7, m8, m9, m10, m11, m12, m13, m14, m15⟩ := hc
      have hpb : (xs.map p)[k]? = some (p x) := by rw [List.getElem?_map, hx]; rfl
      have HS' : Hid (idxF true (xs.map p) = if true = p x then (k : Int) else idxAux true ((xs.map p).drop (k + 1)) (k + 1)) := by rw [Hid, HS.out, idxAux_drop hpb]
      have HC := Lib.hid (HFN.out wr x B1 a1 b1 B2 a2 b2 B3 a3 b3 HF.out)
      obtain ⟨q, hq⟩ : ∃ q, q = p x := ⟨_, rfl⟩
      rw [← hq] at HS' HC
      clear HS hx hE hpb hq hr
      go_wp2_with fail
      (with_reducible refine (HC.out).mono ?_)
      rintro e w1 ⟨rfl, hf1⟩
      have HF1 : Hid (Fr w w1) := HF.out.trans hf1
      clear hf1
      cases q with
      | true =>
        have HR : Hid (idxF true (xs.map p) = (k : Int)) := by rw [Hid, HS'.out, if_pos rfl]
        clear HS'
        go_wp2_with fail
        go_ret
        exact ⟨retI HR.out.symm, HF1.out⟩
      | false =>
        have HR : Hid (idxF true (xs.map p) = idxAux true ((xs.map p).drop (k + 1)) (k + 1)) := by rw [Hid, HS'.out, if_neg (by simp)]
        clear HS'
        go_wp2_with fail
        go_roundw
        case rel => exact ⟨k + 1, by omega, by go_num, HR, HF1⟩
        case measure => simp [intOf]; omega
    · have HE : Hid (idxF true (xs.map p) = -1) := by
        have h1 := H.out.1
        rw [Hid, HS.out, List.drop_eq_nil_of_le (by simp; omega)]; rfl
      go_wp2_with fail
      go_ret
      exact ⟨retI HE.out.symm, HF.out⟩

set_option maxHeartbeats 1000000 in
theorem indexFuncSm_any (w : World) (f : FuncId) (caps : Array Value) (hcf : ∀ (args : Array Value) (W : World), (callFunc f args).run Tryz.prog W = .ok (.enter f args) W) (p : Sm → Bool) (hfn : ∀ (W : World) (x : Sm) (A : Option Addr) (n c : Nat), Fr w W → Calls Tryz.prog f (#[.agg #[.int .i64 x.id, .slice A n c]] ++ caps) W fun e w' => e = .returned (.bool (p x)) ∧ Fr W w') (A : Option Addr) (n c : Nat) (xs : List Sm) (h : Sl 2 eSm w (LT w.heap.size) A n xs) (hm : n ≤ maxLen) :
    Calls Tryz.prog 158 #[.slice A n c, .func (.func f) #[] caps] w fun e w' => e = .returned (.int .i64 (idxF true (xs.map p))) ∧ Fr w w' := by
  unfold maxLen at hm
  have H := Lib.hid h
  have HFN := Lib.hid hfn
  clear h hfn
  go_enter Tryz.func158, Tryz.ntmps158
  go_wp2_with fail
  go_loopw [8] (fun i wr => ∃ k : Nat, k ≤ n ∧ i = .int .i64 k ∧ Hid (idxF true (xs.map p) = idxAux true ((xs.map p).drop k) k) ∧ Hid (Fr w wr)) (fun i _ => n - (intOf i).toNat)
  case atStart => exact ⟨0, Nat.zero_le _, rfl, rfl, Below.refl _ _⟩
  case round =>
    obtain ⟨k, hk, rfl, HS, HF⟩ := hrel
    by_cases hlt : k < n
    · obtain ⟨ad, rfl, hE⟩ := (H.out.go sSm HF.out).els (by omega)
      obtain ⟨x, hx, hr⟩ := hE.row hlt
      obtain ⟨B1, a1, b1, hc, _⟩ := eSm_at hr
      obtain ⟨m0, m1⟩ := hc
      have hpb : (xs.map p)[k]? = some (p x) := by rw [List.getElem?_map, hx]; rfl
      have HS' : Hid (idxF true (xs.map p) = if true = p x then (k : Int) else idxAux true ((xs.map p).drop (k + 1)) (k + 1)) := by rw [Hid, HS.out, idxAux_drop hpb]
      have HC := Lib.hid (HFN.out wr x B1 a1 b1 HF.out)
      obtain ⟨q, hq⟩ : ∃ q, q = p x := ⟨_, rfl⟩
      rw [← hq] at HS' HC
      clear HS hx hE hpb hq hr
      go_wp2_with fail
      (with_reducible refine (HC.out).mono ?_)
      rintro e w1 ⟨rfl, hf1⟩
      have HF1 : Hid (Fr w w1) := HF.out.trans hf1
      clear hf1
      cases q with
      | true =>
        have HR : Hid (idxF true (xs.map p) = (k : Int)) := by rw [Hid, HS'.out, if_pos rfl]
        clear HS'
        go_wp2_with fail
        go_ret
        exact ⟨retI HR.out.symm, HF1.out⟩
      | false =>
        have HR : Hid (idxF true (xs.map p) = idxAux true ((xs.map p).drop (k + 1)) (k + 1)) := by rw [Hid, HS'.out, if_neg (by simp)]
        clear HS'
        go_wp2_with fail
        go_roundw
        case rel => exact ⟨k + 1, by omega, by go_num, HR, HF1⟩
        case measure => simp [intOf]; omega
    · have HE : Hid (idxF true (xs.map p) = -1) := by
        have h1 := H.out.1
        rw [Hid, HS.out, List.drop_eq_nil_of_le (by simp; omega)]; rfl
      go_wp2_with fail
      go_ret
      exact ⟨retI HE.out.symm, HF.out⟩

theorem containsFuncSm_any (w : World) (f : FuncId) (caps : Array Value) (hcf : ∀ (args : Array Value) (W : World), (callFunc f args).run Tryz.prog W = .ok (.enter f args) W) (p : Sm → Bool) (hfn : ∀ (W : World) (x : Sm) (A : Option Addr) (n c : Nat), Fr w W → Calls Tryz.prog f (#[.agg #[.int .i64 x.id, .slice A n c]] ++ caps) W fun e w' => e = .returned (.bool (p x)) ∧ Fr W w') (A : Option Addr) (n c : Nat) (xs : List Sm) (h : Sl 2 eSm w (LT w.heap.size) A n xs) (hm : n ≤ maxLen) :
    Calls Tryz.prog 135 #[.slice A n c, .func (.func f) #[] caps] w fun e w' => e = .returned (.bool (xs.any p)) ∧ Fr w w' := by
  have HC := Lib.hid (indexFuncSm_any w f caps hcf p hfn A n c xs h hm)
  obtain ⟨q, hq⟩ : ∃ q, q = idxF true (xs.map p) := ⟨_, rfl⟩
  have HR : Hid (decide (0 ≤ q) = xs.any p) := by rw [hq]; exact idx_any p xs
  rw [← hq] at HC
  clear h hfn hq hcf
  go_enter Tryz.func135, Tryz.ntmps135
  go_wp2_with fail
  (with_reducible refine (HC.out).mono ?_)
  rintro e w1 ⟨rfl, hf1⟩
  go_wp2_with fail
  go_ret
  exact ⟨retB (by rw [← HR.out]; try simp), hf1⟩
set_option maxHeartbeats 1000000 in
theorem eqTk (x y : Tk) (w : World) : (Op.equalIn 10000 131 (.agg #[.int .i64 x.place, .int .i64 x.try_]) (.agg #[.int .i64 y.place, .int .i64 y.try_])).run Tryz.prog w = .ok (decide (x = y)) w := by
  obtain ⟨a, b⟩ := x
  obtain ⟨c, e⟩ := y
  have hS : Tryz.prog.underlying 131 = some (.struct (Tryz.prog.fieldsOf 131)) := by kernel_rfl
  rw [show (10000 : Nat) = 9999 + 1 from rfl, run_equalIn_agg w 9999 131 _ _ hS (by kernel_rfl)]
  simp only [Program.fieldsOf, Tryz.underlying131]
  go_simp
  by_cases h1 : a = c <;> by_cases h2 : b = e <;> simp [h1, h2]
set_option maxHeartbeats 1000000 in
theorem indexTk_any (w : World) (A : Option Addr) (n c : Nat) (xs : List Tk) (t : Tk) (h : Sl 2 eTk w (LT w.heap.size) A n xs) (hm : n ≤ maxLen) :
    Calls Tryz.prog 134 #[.slice A n c, .agg #[.int .i64 t.place, .int .i64 t.try_]] w fun e w' => e = .returned (.int .i64 (idxF true (xs.map fun o => decide (o = t)))) ∧ Fr w w' := by
  unfold maxLen at hm
  obtain ⟨p, hp⟩ : ∃ p : Tk → Bool, p = fun o => decide (o = t) := ⟨_, rfl⟩
  have H := Lib.hid h
  rw [← hp]
  clear h
  go_enter Tryz.func134, Tryz.ntmps134
  go_wp2_with fail
  have HB : Hid ((w.alloc (.cells #[.int .i64 t.place, .int .i64 t.try_] 131)).heap[w.heap.size]? = some (.cells #[.int .i64 t.place, .int .i64 t.try_] 131 (0, 0))) := heap_new rfl
  have HF0 : Hid (Fr w (w.alloc (.cells #[.int .i64 t.place, .int .i64 t.try_] 131))) := frAlloc _ _
  obtain ⟨W1, hW1⟩ : ∃ W1, W1 = w.alloc (.cells #[.int .i64 t.place, .int .i64 t.try_] 131) := ⟨_, rfl⟩
  obtain ⟨g, hg⟩ : ∃ g, g = w.heap.size := ⟨_, rfl⟩
  rw [← hW1] at HB HF0
  try rw [← hW1]
  rw [← hg] at HB
  try rw [← hg]
  clear hW1 hg
  go_loopw [8] (fun i wr => ∃ k : Nat, k ≤ n ∧ i = .int .i64 k ∧ Hid (idxF true (xs.map p) = idxAux true ((xs.map p).drop k) k) ∧ Hid (Fr W1 wr)) (fun i _ => n - (intOf i).toNat)
  case atStart => exact ⟨0, Nat.zero_le _, rfl, rfl, Below.refl _ _⟩
  case round =>
    obtain ⟨k, hk, rfl, HS, HF⟩ := hrel
    by_cases hlt : k < n
    · have hbw := blk_go HB.out HF.out
      (obtain ⟨u0, u1⟩ := box2_ hbw)
      obtain ⟨ad, rfl, hE⟩ := (H.out.go sTk (HF0.out.trans HF.out)).els (by omega)
      obtain ⟨x, hx, hr⟩ := hE.row hlt
      obtain ⟨⟨m0, m1⟩, _⟩ := eTk_at hr
      have hpb : (xs.map p)[k]? = some (p x) := by rw [List.getElem?_map, hx]; rfl
      have HS' : Hid (idxF true (xs.map p) = if true = p x then (k : Int) else idxAux true ((xs.map p).drop (k + 1)) (k + 1)) := by rw [Hid, HS.out, idxAux_drop hpb]
      obtain ⟨q, hq⟩ : ∃ q, q = p x := ⟨_, rfl⟩
      have hqq := fun (V : World) => eqTk t x V
      have hqe : decide (t = x) = q := by rw [hq, hp]; simp [eq_comm]
      rw [hqe] at hqq
      rw [← hq] at HS'
      clear HS hx hE hpb hq hr hp hqe hbw
      cases q with
      | true =>
        have HR : Hid (idxF true (xs.map p) = (k : Int)) := by rw [Hid, HS'.out, if_pos rfl]
        clear HS'
        go_wp2_with fail
        go_quiet (fail)
        go_wp2_with fail
        go_ret
        exact ⟨retI HR.out.symm, by (repeat' (first | exact Below.refl _ _ | refine below_drewN ?_ _ | refine Below.drew ?_ | refine frA ?_ _ | refine Fr.trans ?_ HF.out | refine Fr.trans ?_ HF0.out))⟩
      | false =>
        have HR : Hid (idxF true (xs.map p) = idxAux true ((xs.map p).drop (k + 1)) (k + 1)) := by rw [Hid, HS'.out, if_neg (by simp)]
        clear HS'
        go_wp2_with fail
        go_quiet (fail)
        go_wp2_with fail
        go_roundw
        case rel => exact ⟨k + 1, by omega, by go_num, HR, by (repeat' (first | exact Below.refl _ _ | refine below_drewN ?_ _ | refine Below.drew ?_ | refine frA ?_ _ | refine Fr.trans ?_ HF.out))⟩
        case measure => simp [intOf]; omega
    · have HE : Hid (idxF true (xs.map p) = -1) := by
        have h1 := H.out.1
        rw [Hid, HS.out, List.drop_eq_nil_of_le (by simp; omega)]; rfl
      go_wp2_with fail
      go_ret
      exact ⟨retI HE.out.symm, HF0.out.trans HF.out⟩
theorem containsTk_any (w : World) (A : Option Addr) (n c : Nat) (xs : List Tk) (t : Tk) (h : Sl 2 eTk w (LT w.heap.size) A n xs) (hm : n ≤ maxLen) :
    Calls Tryz.prog 96 #[.slice A n c, .agg #[.int .i64 t.place, .int .i64 t.try_]] w fun e w' => e = .returned (.bool (xs.any fun o => decide (o = t))) ∧ Fr w w' := by
  obtain ⟨q, hq⟩ : ∃ q, q = idxF true (xs.map fun o => decide (o = t)) := ⟨_, rfl⟩
  have HR : Hid (decide (0 ≤ q) = xs.any fun o => decide (o = t)) := by rw [hq]; exact idx_any _ xs
  have HC := Lib.hid (indexTk_any (w.alloc (.cells #[.int .i64 t.place, .int .i64 t.try_] 131)) A n c xs t (h.go sTk (frAlloc _ _)) hm)
  rw [← hq] at HC
  clear h hq
  go_enter Tryz.func96, Tryz.ntmps96
  go_wp2_with fail
  (with_reducible refine (HC.out).mono ?_)
  rintro e w1 ⟨rfl, hf1⟩
  go_wp2_with fail
  go_ret
  exact ⟨retB (by rw [← HR.out]; try simp), (frAlloc _ _).trans hf1⟩
end Go.Proofs.YtmiaplgfbphfmaaGreatDoor
namespace Go.Proofs.YtmiaplgfbphfmaaGreatDoor
open Go.RowKit

theorem entersW {P : Program} {f : FuncId} {fn : Func} (hf : P.funcs[f]? = some fn) (hn : (fn.name == "runtime.NumGoroutine") = false) (hb : fn.body.isNone = false) (args : Array Value) (W : World) : (callFunc f args).run P W = .ok (.enter f args) W := by
  have h1 : fn.name ≠ "runtime.NumGoroutine" := by simpa using hn
  have h2 : fn.body ≠ none := by intro e; rw [e] at hb; simp at hb
  simp [callFunc, hf, h1, h2]
theorem wpList_callv {P : Program} {w : World} {ops : Array Oper} {rest : List Oper} {o : Oper} {a : Act} {Q : Exit → Act → World → Prop} (t : Tmp) (xs : Array Operand) (ats : Array TypeId)
    (ho : o.op = .call { callee := .value (.tmp t), args := xs, argTypes := ats }) (hw : Region.wanted o (yielded ops a.tmps) = true) (f : FuncId) (caps : Array Value) (ht : a.eval (.tmp t) = .func (.func f) #[] caps)
    (hen : ∀ (args : Array Value) (W : World), (callFunc f args).run P W = .ok (.enter f args) W) (args : Array Value) (hargs : ((#[] ++ xs.map a.eval) ++ caps) = args) {R : Ending → World → Prop} (hC : Calls P f args w R)
    (h : ∀ e w', R e w' → ∃ v, e = .returned v ∧ wpList P ops Q rest (a.put o.dst v) w') : wpList P ops Q (o :: rest) a w := by
  refine BigFrame.wpList_want hw fun K hK => ?_
  unfold Oper.wp
  have e1 : (execOp a.eval o).run P w = .ok (.enter f ((#[] ++ xs.map a.eval) ++ caps)) w := by
    unfold execOp
    simp only [ho, resolve, ht]
    simp only [Deferred.ofValue, invoke, Sem.run_bind, Sem.run_pure, Result.andThen_ok, hen]
  rw [e1, hargs]
  unfold Oper.upon
  simp only []
  refine hC.mono fun e w' hr => ?_
  obtain ⟨v, rfl, h2⟩ := h e w' hr
  exact hK _ _ h2
/-- At a call through a slot, with one closed string. -/
theorem at_callv {P : Program} {w : World} {ops : Array Oper} {rest : List Oper} {o : Oper} {a : Act} {Q : Exit → Act → World → Prop} (t : Tmp) (c : UInt8) (ats : Array TypeId)
    (ho : o.op = .call { callee := .value (.tmp t), args := #[.const (.string ⟨#[c]⟩)], argTypes := ats }) (h : wpList P ops Q (o :: rest) a w) : wpList P ops Q (o :: rest) a w := h
end Go.Proofs.YtmiaplgfbphfmaaGreatDoor
namespace Go.Proofs.YtmiaplgfbphfmaaGreatDoor
open Go.RowKit
attribute [local irreducible] wpList

theorem findOne_any (w : World) (x : Kp) (A : Option Addr) (n c : Nat) (A2 : Option Addr) (n2 c2 : Nat) (A3 : Option Addr) (n3 c3 : Nat) (frm seq : Int) (p q : Nat) (hp : w.cell? ⟨p, 0, none⟩ = some (.int .i64 frm)) (hq : w.cell? ⟨q, 0, none⟩ = some (.int .i64 seq)) :
    Calls Tryz.prog 95 #[.agg #[.int .i64 x.h.frm, .int .i64 x.h.seq, .int .i64 x.h.to, .int .i64 x.h.till, .int .i64 x.h.bytes, .int .i64 x.h.block, .bool x.own, .slice A n c, .slice A2 n2 c2, .int .i64 x.shares, .int .i64 x.giving, .int .i64 x.towards, .int .i64 x.try_, .slice A3 n3 c3, .bool x.delivered, .bool x.purged], .pointer (some ⟨p, 0, none⟩), .pointer (some ⟨q, 0, none⟩)] w fun e w' => e = .returned (.bool (decide (x.h.frm = frm) && decide (x.h.seq = seq))) ∧ Fr w w' := by
  have hp' : ∀ ob, (w.alloc ob).cell? ⟨p, 0, none⟩ = some (.int .i64 frm) := fun ob => ((frAlloc w ob).cell (p := ⟨p, 0, none⟩) (World.block_lt_of_cell? w _ hp)).trans hp
  have hq' : ∀ ob, (w.alloc ob).cell? ⟨q, 0, none⟩ = some (.int .i64 seq) := fun ob => ((frAlloc w ob).cell (p := ⟨q, 0, none⟩) (World.block_lt_of_cell? w _ hq)).trans hq
  go_enter Tryz.func95, Tryz.ntmps95
  go_wp2_with fail
  all_goals
    go_ret
    exact ⟨retB (by first | rfl | (simp [*]; done) | (rw [Bool.eq_iff_iff]; simp [*]; done)), by (repeat' (first | exact Below.refl _ _ | refine below_drewN ?_ _ | refine Below.drew ?_ | refine frA ?_ _))⟩
theorem late_any (w : World) (x : Kp) (A : Option Addr) (n c : Nat) (A2 : Option Addr) (n2 c2 : Nat) (A3 : Option Addr) (n3 c3 : Nat) (t : Int) (p : Nat) (hp : w.cell? ⟨p, 0, none⟩ = some (.int .i64 t)) :
    Calls Tryz.prog 141 #[.agg #[.int .i64 x.h.frm, .int .i64 x.h.seq, .int .i64 x.h.to, .int .i64 x.h.till, .int .i64 x.h.bytes, .int .i64 x.h.block, .bool x.own, .slice A n c, .slice A2 n2 c2, .int .i64 x.shares, .int .i64 x.giving, .int .i64 x.towards, .int .i64 x.try_, .slice A3 n3 c3, .bool x.delivered, .bool x.purged], .pointer (some ⟨p, 0, none⟩)] w fun e w' => e = .returned (.bool (decide (x.h.till ≤ t))) ∧ Fr w w' := by
  have hp' : ∀ ob, (w.alloc ob).cell? ⟨p, 0, none⟩ = some (.int .i64 t) := fun ob => ((frAlloc w ob).cell (p := ⟨p, 0, none⟩) (World.block_lt_of_cell? w _ hp)).trans hp
  go_enter Tryz.func141, Tryz.ntmps141
  go_wp2_with fail
  go_ret
  exact ⟨retB (by first | rfl | (simp [*]; done) | (rw [Bool.eq_iff_iff]; simp [*]; done)), by (repeat' (first | exact Below.refl _ _ | refine below_drewN ?_ _ | refine Below.drew ?_ | refine frA ?_ _))⟩
theorem sameId_any (w : World) (o : Sm) (A : Option Addr) (n c : Nat) (id : Int) (b : Nat) (hb : w.cell? ⟨b, 10, none⟩ = some (.int .i64 id)) :
    Calls Tryz.prog 142 #[.agg #[.int .i64 o.id, .slice A n c], .pointer (some ⟨b, 0, none⟩)] w fun e w' => e = .returned (.bool (decide (o.id = id))) ∧ Fr w w' := by
  have hb' : ∀ ob, (w.alloc ob).cell? ⟨b, 10, none⟩ = some (.int .i64 id) := fun ob => ((frAlloc w ob).cell (p := ⟨b, 10, none⟩) (World.block_lt_of_cell? w _ hb)).trans hb
  go_enter Tryz.func142, Tryz.ntmps142
  go_wp2_with fail
  go_ret
  exact ⟨retB (by first | rfl | (simp [*]; done) | (rw [Bool.eq_iff_iff]; simp [*]; done)), by (repeat' (first | exact Below.refl _ _ | refine below_drewN ?_ _ | refine Below.drew ?_ | refine frA ?_ _))⟩
set_option maxHeartbeats 1000000 in
theorem keepFind_any (w : World) (me time seq : Int) (A : Option Addr) (n c : Nat) (l : List Kp) (frm sq : Int) (h : Sl 16 eKp w (LT w.heap.size) A n l) (hm : n ≤ maxLen) :
    Calls Tryz.prog 42 #[.agg #[.int .i64 me, .slice A n c, .int .i64 time, .int .i64 seq], .int .i64 frm, .int .i64 sq] w fun e w' => e = .returned (.int .i64 (findF l frm sq)) ∧ Fr w w' := by
  have hcf : ∀ (args : Array Value) (W : World), (callFunc 95 args).run Tryz.prog W = .ok (.enter 95 args) W := entersW Tryz.func95 (by kernel_rfl) (by kernel_rfl)
  (have H := Lib.hid h; clear h)
  go_enter Tryz.func42, Tryz.ntmps42
  go_wp2_with fail
  with_reducible refine (indexFuncKp_any _ _ _ hcf (fun k => decide (k.h.frm = frm) && decide (k.h.seq = sq)) ?hfn _ _ _ l ?hs hm).mono ?_
  case hfn =>
    intro W x A n c A2 n2 c2 A3 n3 c3 hf
    exact findOne_any W x A n c A2 n2 c2 A3 n3 c3 frm sq _ _ (cell_of_heap (blk_go (heap_old (heap_new (by simp))) hf)) (cell_of_heap (blk_go (heap_new (by simp)) hf))
  case hs => exact H.out.go sKp (by (repeat' (first | exact Below.refl _ _ | refine below_drewN ?_ _ | refine Below.drew ?_ | refine frA ?_ _)))
  rintro e w1 ⟨rfl, hf1⟩
  have Hf1 := Lib.hid hf1
  clear hf1
  go_wp2_with fail
  go_ret
  exact ⟨retI (findAt_idx frm sq l), by (repeat' (first | exact Below.refl _ _ | refine below_drewN ?_ _ | refine Below.drew ?_ | refine frA ?_ _ | refine Fr.trans ?_ Hf1.out))⟩
end Go.Proofs.YtmiaplgfbphfmaaGreatDoor
namespace Go.Proofs.YtmiaplgfbphfmaaGreatDoor
open Go.RowKit
attribute [local irreducible] wpList

theorem infoKept : (Tryz.prog.info? 96).map (fun i => (i.zero, i.size, i.bytes)) = some (some (.agg #[.int .i64 0, .int .i64 0, .int .i64 0, .int .i64 0, .int .i64 0, .int .i64 0, .bool false, .slice none 0 0, .slice none 0 0, .int .i64 0, .int .i64 0, .int .i64 0, .int .i64 0, .slice none 0 0, .bool false, .bool false]), 16, 168) := by kernel_rfl
theorem infoSymb : (Tryz.prog.info? 38).map (fun i => (i.zero, i.size, i.bytes)) = some (some (.agg #[.int .i64 0, .slice none 0 0]), 2, 32) := by kernel_rfl
theorem infoTaken : (Tryz.prog.info? 131).map (fun i => (i.zero, i.size, i.bytes)) = some (some (.agg #[.int .i64 0, .int .i64 0]), 2, 16) := by kernel_rfl
set_option maxHeartbeats 400000 in
theorem cloneToks_any (w : World) (A : Option Addr) (n c : Nat) (l : List Tk) (h : Sl 2 eTk w (LT w.heap.size) A n l) (hm : n * 16 ≤ lim) :
    Calls Tryz.prog 106 #[.slice A n c] w fun e w' => ∃ v, e = .returned v ∧ Own 2 eTk w' w.heap.size 131 v l ∧ Fr w w' := by
  have hm2 := hm
  unfold lim at hm2
  cases A with
  | none =>
    have hn : n = 0 := by
      rcases Nat.eq_zero_or_pos n with h0 | h0
      · exact h0
      · obtain ⟨ad, e, _⟩ := h.2 h0; cases e
    have hl : l = [] := List.eq_nil_of_length_eq_zero (by rw [h.1]; exact hn)
    subst hl
    subst hn
    have hnil := fun (W : World) => Lib.run_eql_slice_nil (P := Tryz.prog) W 94 _ Option.none 0 c 0 0 Tryz.underlying94
    clear h
    go_enter Tryz.func106, Tryz.ntmps106
    go_wp2_with fail
    go_ret
    exact ⟨_, rfl, Own.nil, Below.refl _ _⟩
  | some ad =>
    have hnil := fun (W : World) => Lib.run_eql_slice_nil (P := Tryz.prog) W 94 _ (some ad) n c 0 0 Tryz.underlying94
    simp only [Option.isNone_some] at hnil
    obtain ⟨cs, hcl, hcc, hc1, hcr⟩ : ∃ cs : List Value, cs.length = n * 2 ∧ (∀ j u, cs[j]? = some u → w.cell? (ad.add j) = some u ∧ ad.block < w.heap.size) ∧ (∀ u ∈ cs, u.oneCell' = true) ∧ ∀ i x, l[i]? = some x → eTk w (LT w.heap.size) (fun j => cs[i * 2 + j]?) x := by
      rcases Nat.eq_zero_or_pos n with h0 | h0
      · have hl : l = [] := List.eq_nil_of_length_eq_zero (by rw [h.1]; exact h0)
        exact ⟨[], by simp [h0], fun j u hu => by simp at hu, fun u hu => by simp at hu, fun i x hx => by simp [hl] at hx⟩
      · obtain ⟨ad', e, hE⟩ := h.els h0
        injection e with e
        subst e
        obtain ⟨cs, k1, k2, k3, k4⟩ := hE.cells fTk sTk (by decide)
        exact ⟨cs, k1, fun j u hu => ⟨k2 j u hu, hE.2.1⟩, k3, k4⟩
    have hll := h.1
    (have H := Lib.hid h; clear h; have Hcl := Lib.hid hcl; clear hcl; have Hcc := Lib.hid hcc; clear hcc; have Hc1 := Lib.hid hc1; clear hc1; have Hcr := Lib.hid hcr; clear hcr; have Hll := Lib.hid hll; clear hll)
    go_enter Tryz.func106, Tryz.ntmps106
    go_wp2_with (at_builtin; refine wpList_apps _ rfl _ _ 94 rfl w.heap.size 131 _ _ _ Tryz.underlying94 infoTaken rfl (by decide) sTk _ ([] : List Tk) rfl (Own.empty (Nat.le_refl _)) ad n c cs rfl Hcl.out ?c1 Hc1.out l Hll.out ?c3 ?c4 ?c5 ?c6 ?_)
    case c1 => intro j u hu; obtain ⟨k1, k2⟩ := Hcc.out j u hu; exact ((frAlloc w _).cell (by rw [block_of_add]; exact k2)).trans k1
    case c3 =>
      intro i x hx
      refine (sTk).more (S := LT w.heap.size) (fun b hb => ?_) ((sTk).keep (fun p hp => (frAlloc w _).cell hp) (Hcr.out i x hx))
      have hb' : b < w.heap.size := hb
      refine ⟨by simp; omega, ?_⟩
      intro e
      have e2 : some w.heap.size = some b := e
      have : w.heap.size = b := by injection e2
      omega
    case c4 => unfold maxLen; simp; omega
    case c5 => unfold lim; simp; omega
    case c6 => simp
    · intro v' w1 hown hg hge
      have HO : Hid (Own 2 eTk w1 w.heap.size 131 v' l) := hown
      have HF : Hid (Fr w w1) := (frAlloc w _).grown hg (by simp) hge
      clear hown hg hge
      go_wp2_with fail
      go_ret
      exact ⟨v', rfl, HO.out, HF.out⟩
section
variable (N : Nat)
set_option maxHeartbeats 400000 in
theorem cloneSymsL_any (w : World) (A : Option Addr) (n c : Nat) (l : List Sm) (h : Sl 2 (eLow N eSm) w (LT w.heap.size) A n l) (hm : n * 32 ≤ lim) :
    Calls Tryz.prog 105 #[.slice A n c] w fun e w' => ∃ v, e = .returned v ∧ Own 2 (eLow N eSm) w' w.heap.size 38 v l ∧ Fr w w' := by
  have hm2 := hm
  unfold lim at hm2
  cases A with
  | none =>
    have hn : n = 0 := by
      rcases Nat.eq_zero_or_pos n with h0 | h0
      · exact h0
      · obtain ⟨ad, e, _⟩ := h.2 h0; cases e
    have hl : l = [] := List.eq_nil_of_length_eq_zero (by rw [h.1]; exact hn)
    subst hl
    subst hn
    have hnil := fun (W : World) => Lib.run_eql_slice_nil (P := Tryz.prog) W 93 _ Option.none 0 c 0 0 Tryz.underlying93
    clear h
    go_enter Tryz.func105, Tryz.ntmps105
    go_wp2_with fail
    go_ret
    exact ⟨_, rfl, Own.nil, Below.refl _ _⟩
  | some ad =>
    have hnil := fun (W : World) => Lib.run_eql_slice_nil (P := Tryz.prog) W 93 _ (some ad) n c 0 0 Tryz.underlying93
    simp only [Option.isNone_some] at hnil
    obtain ⟨cs, hcl, hcc, hc1, hcr⟩ : ∃ cs : List Value, cs.length = n * 2 ∧ (∀ j u, cs[j]? = some u → w.cell? (ad.add j) = some u ∧ ad.block < w.heap.size) ∧ (∀ u ∈ cs, u.oneCell' = true) ∧ ∀ i x, l[i]? = some x → (eLow N eSm) w (LT w.heap.size) (fun j => cs[i * 2 + j]?) x := by
      rcases Nat.eq_zero_or_pos n with h0 | h0
      · have hl : l = [] := List.eq_nil_of_length_eq_zero (by rw [h.1]; exact h0)
        exact ⟨[], by simp [h0], fun j u hu => by simp at hu, fun u hu => by simp at hu, fun i x hx => by simp [hl] at hx⟩
      · obtain ⟨ad', e, hE⟩ := h.els h0
        injection e with e
        subst e
        obtain ⟨cs, k1, k2, k3, k4⟩ := hE.cells (fSm.low N) (sSm.low N) (by decide)
        exact ⟨cs, k1, fun j u hu => ⟨k2 j u hu, hE.2.1⟩, k3, k4⟩
    have hll := h.1
    (have H := Lib.hid h; clear h; have Hcl := Lib.hid hcl; clear hcl; have Hcc := Lib.hid hcc; clear hcc; have Hc1 := Lib.hid hc1; clear hc1; have Hcr := Lib.hid hcr; clear hcr; have Hll := Lib.hid hll; clear hll)
    go_enter Tryz.func105, Tryz.ntmps105
    go_wp2_with (at_builtin; refine wpList_apps _ rfl _ _ 93 rfl w.heap.size 38 _ _ _ Tryz.underlying93 infoSymb rfl (by decide) (sSm.low N) _ ([] : List Sm) rfl (Own.empty (Nat.le_refl _)) ad n c cs rfl Hcl.out ?c1 Hc1.out l Hll.out ?c3 ?c4 ?c5 ?c6 ?_)
    case c1 => intro j u hu; obtain ⟨k1, k2⟩ := Hcc.out j u hu; exact ((frAlloc w _).cell (by rw [block_of_add]; exact k2)).trans k1
    case c3 =>
      intro i x hx
      refine ((sSm.low N)).more (S := LT w.heap.size) (fun b hb => ?_) (((sSm.low N)).keep (fun p hp => (frAlloc w _).cell hp) (Hcr.out i x hx))
      have hb' : b < w.heap.size := hb
      refine ⟨by simp; omega, ?_⟩
      intro e
      have e2 : some w.heap.size = some b := e
      have : w.heap.size = b := by injection e2
      omega
    case c4 => unfold maxLen; simp; omega
    case c5 => unfold lim; simp; omega
    case c6 => simp
    · intro v' w1 hown hg hge
      have HO : Hid (Own 2 (eLow N eSm) w1 w.heap.size 38 v' l) := hown
      have HF : Hid (Fr w w1) := (frAlloc w _).grown hg (by simp) hge
      clear hown hg hge
      go_wp2_with fail
      go_ret
      exact ⟨v', rfl, HO.out, HF.out⟩
set_option maxHeartbeats 400000 in
theorem cloneKepts_any (w : World) (A : Option Addr) (n c : Nat) (l : List Kp) (h : Sl 16 (eLow N eKp) w (LT w.heap.size) A n l) (hm : n * 168 ≤ lim) :
    Calls Tryz.prog 97 #[.slice A n c] w fun e w' => ∃ v, e = .returned v ∧ Own 16 (eLow N eKp) w' w.heap.size 96 v l ∧ Fr w w' := by
  have hm2 := hm
  unfold lim at hm2
  cases A with
  | none =>
    have hn : n = 0 := by
      rcases Nat.eq_zero_or_pos n with h0 | h0
      · exact h0
      · obtain ⟨ad, e, _⟩ := h.2 h0; cases e
    have hl : l = [] := List.eq_nil_of_length_eq_zero (by rw [h.1]; exact hn)
    subst hl
    subst hn
    have hnil := fun (W : World) => Lib.run_eql_slice_nil (P := Tryz.prog) W 23 _ Option.none 0 c 0 0 Tryz.underlying23
    clear h
    go_enter Tryz.func97, Tryz.ntmps97
    go_wp2_with fail
    go_ret
    exact ⟨_, rfl, Own.nil, Below.refl _ _⟩
  | some ad =>
    have hnil := fun (W : World) => Lib.run_eql_slice_nil (P := Tryz.prog) W 23 _ (some ad) n c 0 0 Tryz.underlying23
    simp only [Option.isNone_some] at hnil
    obtain ⟨cs, hcl, hcc, hc1, hcr⟩ : ∃ cs : List Value, cs.length = n * 16 ∧ (∀ j u, cs[j]? = some u → w.cell? (ad.add j) = some u ∧ ad.block < w.heap.size) ∧ (∀ u ∈ cs, u.oneCell' = true) ∧ ∀ i x, l[i]? = some x → (eLow N eKp) w (LT w.heap.size) (fun j => cs[i * 16 + j]?) x := by
      rcases Nat.eq_zero_or_pos n with h0 | h0
      · have hl : l = [] := List.eq_nil_of_length_eq_zero (by rw [h.1]; exact h0)
        exact ⟨[], by simp [h0], fun j u hu => by simp at hu, fun u hu => by simp at hu, fun i x hx => by simp [hl] at hx⟩
      · obtain ⟨ad', e, hE⟩ := h.els h0
        injection e with e
        subst e
        obtain ⟨cs, k1, k2, k3, k4⟩ := hE.cells (fKp.low N) (sKp.low N) (by decide)
        exact ⟨cs, k1, fun j u hu => ⟨k2 j u hu, hE.2.1⟩, k3, k4⟩
    have hll := h.1
    (have H := Lib.hid h; clear h; have Hcl := Lib.hid hcl; clear hcl; have Hcc := Lib.hid hcc; clear hcc; have Hc1 := Lib.hid hc1; clear hc1; have Hcr := Lib.hid hcr; clear hcr; have Hll := Lib.hid hll; clear hll)
    go_enter Tryz.func97, Tryz.ntmps97
    go_wp2_with (at_builtin; refine wpList_apps _ rfl _ _ 23 rfl w.heap.size 96 _ _ _ Tryz.underlying23 infoKept rfl (by decide) (sKp.low N) _ ([] : List Kp) rfl (Own.empty (Nat.le_refl _)) ad n c cs rfl Hcl.out ?c1 Hc1.out l Hll.out ?c3 ?c4 ?c5 ?c6 ?_)
    case c1 => intro j u hu; obtain ⟨k1, k2⟩ := Hcc.out j u hu; exact ((frAlloc w _).cell (by rw [block_of_add]; exact k2)).trans k1
    case c3 =>
      intro i x hx
      refine ((sKp.low N)).more (S := LT w.heap.size) (fun b hb => ?_) (((sKp.low N)).keep (fun p hp => (frAlloc w _).cell hp) (Hcr.out i x hx))
      have hb' : b < w.heap.size := hb
      refine ⟨by simp; omega, ?_⟩
      intro e
      have e2 : some w.heap.size = some b := e
      have : w.heap.size = b := by injection e2
      omega
    case c4 => unfold maxLen; simp; omega
    case c5 => unfold lim; simp; omega
    case c6 => simp
    · intro v' w1 hown hg hge
      have HO : Hid (Own 16 (eLow N eKp) w1 w.heap.size 96 v' l) := hown
      have HF : Hid (Fr w w1) := (frAlloc w _).grown hg (by simp) hge
      clear hown hg hge
      go_wp2_with fail
      go_ret
      exact ⟨v', rfl, HO.out, HF.out⟩
end
end Go.Proofs.YtmiaplgfbphfmaaGreatDoor
namespace Go.Proofs.YtmiaplgfbphfmaaGreatDoor
open Go.RowKit

/-- A bundle as it is read; told: its symbols, and what it took, are no slices. -/
def eKq : ERd (Bool × Kp) := fun w S f x => eKp w S f x.2 ∧ (x.1 = true → f 7 = some (.slice none 0 0) ∧ f 8 = some (.slice none 0 0) ∧ f 13 = some (.slice none 0 0))
theorem sKq : Stable 16 eKq :=
  ⟨fun hk h => ⟨sKp.keep hk h.1, h.2⟩, fun hB h => ⟨sKp.more hB h.1, h.2⟩, fun hf h => ⟨sKp.mono hf h.1, fun e => ⟨hf 7 _ (by decide) (h.2 e).1, hf 8 _ (by decide) (h.2 e).2.1, hf 13 _ (by decide) (h.2 e).2.2⟩⟩⟩
theorem fKq : Full 16 eKq := fun h j hj => fKp h.1 j hj
section
variable {N : Nat}
set_option maxRecDepth 100000 in
set_option maxHeartbeats 2000000 in
theorem insertKepts_room (w : World) (g n cap k vb : Nat) (cs rest vs : List Value) (tv : TypeId) (hg : w.heap[g]? = some (.cells (cs ++ rest).toArray 96 (0, 0))) (hv : w.heap[vb]? = some (.cells vs.toArray tv (0, 0))) (hvb : vb ≠ g)
    (hl : cs.length = n * 16) (hvl : vs.length = 16) (hall : cs.length + rest.length = cap * 16) (hroom : n + 1 ≤ cap) (hcm : cap ≤ maxLen) (hk : k < n) (h1 : ∀ u ∈ cs, u.oneCell' = true) (h2 : ∀ u ∈ vs, u.oneCell' = true) :
    Calls Tryz.prog 140 #[.slice (some ⟨g, 0, none⟩) n cap, .int .i64 (k : Int), .slice (some ⟨vb, 0, none⟩) 1 1] w fun e w' => e = .returned (.slice (some ⟨g, 0, none⟩) (n + 1) cap) ∧ (∃ rest', ((cs.take (k * 16) ++ vs ++ cs.drop (k * 16)) ++ rest').length = cap * 16 ∧ w'.heap[g]? = some (.cells ((cs.take (k * 16) ++ vs ++ cs.drop (k * 16)) ++ rest').toArray 96 (0, 0))) ∧ w.grownBy w' (some g) := by
  unfold maxLen at hcm
  obtain ⟨i0, hi0, hi1⟩ := Option.map_eq_some_iff.1 infoKept
  simp only [Prod.mk.injEq] at hi1
  have hsz : (Tryz.prog.info? 96).map (·.size) = some 16 := by rw [hi0]; simp [hi1.2.1]
  have hkn : k * 16 + 16 ≤ n * 16 := by have := Nat.mul_le_mul_right 16 (show k + 1 ≤ n from hk); rw [Nat.add_mul] at this; omega
  have hnc : n * 16 + 16 ≤ cap * 16 := by have := Nat.mul_le_mul_right 16 hroom; rw [Nat.add_mul] at this; omega
  have hov : ∀ la ca lb cb, (callFunc 160 #[.slice (some ⟨vb, 0, none⟩) la ca, .slice (some ⟨g, (k + 1) * 16, none⟩) lb cb]).run Tryz.prog w = .ok (.value (.bool false)) w := fun la ca lb cb => by
    rw [run_callFunc_extern Tryz.func160 (by kernel_rfl) (by kernel_rfl) (by kernel_rfl) (e := Extern.SlicesOverlaps.overlaps #[23, 23] #[4]) (by kernel_rfl),
      Lib.run_overlaps_apart w 23 4 96 Tryz.underlying23 16 (fun w => by kernel_rfl) ⟨vb, 0, none⟩ ⟨g, (k + 1) * 16, none⟩ la ca lb cb hvb _ _ _ _ (shape_cells hv) (shape_cells hg) (by rw [List.size_toArray, List.length_append]; omega) (blk_free hv) (blk_free hv)]
    rfl
  obtain ⟨cur1, hcur1⟩ : ∃ cur1, cur1 = (cs ++ rest).take ((k + 1) * 16) ++ cs.drop (k * 16) ++ (cs ++ rest).drop ((k + 1) * 16 + (cs.drop (k * 16)).length) := ⟨_, rfl⟩
  have hdl : (cs.drop (k * 16)).length = (n - k) * 16 := by rw [List.length_drop, hl, ← Nat.sub_mul]
  have hdk : (k + 1) * 16 = k * 16 + 16 := by rw [Nat.add_mul, Nat.one_mul]
  have hcl1 : cur1.length = cap * 16 := by
    rw [hcur1]; simp only [List.length_append, List.length_take, List.length_drop]; omega
  obtain ⟨W1, hW1⟩ : ∃ W1, W1 = w.drew.setRow g cur1.toArray := ⟨_, rfl⟩
  have hcp1 : Hid (∀ ty dc sc, (Builtin.copy_ #[23, 23] ty #[.slice (some ⟨g, (k + 1) * 16, none⟩) (n + 1 - (k + 1)) dc, .slice (some ⟨g, k * 16, none⟩) (n + 1 - k) sc]).run Tryz.prog w.drew = .ok (goInt (Nat.min (n + 1 - k) (n + 1 - (k + 1)))) W1) := fun ty dc sc => by
    rw [hW1, hcur1]
    refine run_copyN w.drew _ _ ty 96 16 g ((k + 1) * 16) (n + 1 - (k + 1)) dc ⟨g, k * 16, none⟩ (n + 1 - k) sc (cs ++ rest) 96 (cs.drop (k * 16)) Tryz.underlying23 hsz hg ?_ (fun j v hj => ?_) (by rw [List.length_append]; omega) (fun u hu => h1 u (List.mem_of_mem_drop hu))
    · rw [hdl]; congr 1; simp only [Nat.min_def]; split <;> omega
    · rw [Addr.add_lit]
      rw [List.getElem?_drop] at hj
      exact cells_at (w := w.drew) hg hj
  have hg1 : W1.heap[g]? = some (.cells cur1.toArray 96 (0, 0)) := by rw [hW1]; exact setRow_heap w.drew g _ _ 96 _ hg
  have hv1 : W1.heap[vb]? = some (.cells vs.toArray tv (0, 0)) := by rw [hW1, setRow_other w.drew g vb _ hvb]; exact hv
  have hG1 : w.grownBy W1 (some g) := by rw [hW1]; exact grown_setRow (w := w) (wr := w.drew) ⟨rfl, rfl, rfl, Nat.le_refl _, fun _ _ _ => rfl⟩ _
  obtain ⟨W2, hW2⟩ : ∃ W2, W2 = W1.setRow g (cur1.take (k * 16) ++ vs ++ cur1.drop (k * 16 + vs.length)).toArray := ⟨_, rfl⟩
  have hcp2 : Hid (∀ ty dc, (Builtin.copy_ #[23, 23] ty #[.slice (some ⟨g, k * 16, none⟩) (n + 1 - k) dc, .slice (some ⟨vb, 0, none⟩) 1 1]).run Tryz.prog W1 = .ok (goInt (Nat.min 1 (n + 1 - k))) W2) := fun ty dc => by
    rw [hW2]
    refine run_copyN W1 _ _ ty 96 16 g (k * 16) (n + 1 - k) dc ⟨vb, 0, none⟩ 1 1 cur1 96 vs Tryz.underlying23 hsz hg1 ?_ (fun j v hj => ?_) (by rw [hcl1, hvl]; omega) h2
    · rw [hvl, show Nat.min 1 (n + 1 - k) = 1 by simp only [Nat.min_def]; split <;> omega, Nat.one_mul]
    · rw [zero_add_addr, cell_of_heap hv1, List.getElem?_toArray]; exact hj
  have R : Hid (∃ rest', ((cs.take (k * 16) ++ vs ++ cs.drop (k * 16)) ++ rest').length = cap * 16 ∧ W2.heap[g]? = some (.cells ((cs.take (k * 16) ++ vs ++ cs.drop (k * 16)) ++ rest').toArray 96 (0, 0))) := by
    have htl : (cs.take (k * 16)).length = k * 16 := by rw [List.length_take]; omega
    refine ⟨(cs ++ rest).drop ((k + 1) * 16 + (cs.drop (k * 16)).length), by simp only [List.length_append, List.length_take, List.length_drop]; omega, ?_⟩
    rw [hW2, setRow_heap W1 g _ _ 96 _ hg1]
    have e1 : cur1.take (k * 16) = cs.take (k * 16) := by
      rw [hcur1, List.append_assoc, List.take_append_of_le_length (by rw [List.length_take, List.length_append]; omega), List.take_take, Nat.min_eq_left (by omega), List.take_append_of_le_length (by omega)]
    have e2 : cur1.drop (k * 16 + vs.length) = cs.drop (k * 16) ++ (cs ++ rest).drop ((k + 1) * 16 + (cs.drop (k * 16)).length) := by
      rw [hcur1, hvl, ← hdk, List.append_assoc, List.drop_left' (by rw [List.length_take, List.length_append]; omega)]
    rw [e1, e2]
    simp only [List.append_assoc]
  have R2 : Hid (w.grownBy W2 (some g)) := by rw [hW2]; exact grown_setRow hG1 _
  have q1 : ¬ ((k : Int) = (n : Int)) := by omega
  have q2 : ((k : Int) == (n : Int)) = false := by simp; omega
  have q3 : ¬ ((n : Int) + 1 > (cap : Int)) := by omega
  have q4 : ¬ cap = k + 1 := by omega
  have q5 : ¬ cap = k := by omega
  have q6 : (k : Int) ≤ (n : Int) := by omega
  have q7 : n + 1 ≤ cap := hroom
  have q8 : (k : Int) + 1 ≤ (n : Int) + 1 := by omega
  have q9 : (0 : Int) ≤ (k : Int) + 1 := by omega
  have q10 : (k : Int) ≤ (n : Int) + 1 := by omega
  have HW1 := Lib.hid hW1
  clear hg hv hl hvl hall h1 h2 hi0 hi1 hsz hcur1 hdl hdk hcl1 hg1 hv1 hG1 hW1 hW2 hkn hnc hvb
  have HOV := Lib.hid hov
  clear hov
  have hov := HOV.out
  try simp only [Nat.mul_one] at hov
  have hcpA := hcp1.out
  have hcpB := hcp2.out
  try simp only [Nat.mul_one] at hcpA hcpB
  have HA := Lib.hid hcpA
  have HB := Lib.hid hcpB
  clear hcpA hcpB
  have qw : IntKind.i64.wrap ((k : Int) + 1) = (k : Int) + 1 := by rw [IntKind.wrap_i64]; omega
  have qt : ((k : Int) + 1).toNat = k + 1 := by omega
  go_enter Tryz.func140, Tryz.ntmps140
  go_wp2_with (simp only [hov])
  go_region_law (refine step_copy_eq rfl (.tmp 73) (.tmp 76) 23 23 rfl _ _ (by simp [Act.eval, Act.put]) (by simp [Act.eval, Act.put]) (HA.out _ (cap - (k + 1)) (cap - k)) ?_)
  go_wp2_with (refine wpList_copy_eq _ rfl (.tmp 80) (.tmp 81) 23 23 rfl _ _ rfl rfl (HB.out _ (cap - k)) ?_)
  go_ret
  exact ⟨rfl, R.out, R2.out⟩
set_option maxRecDepth 100000 in
set_option maxHeartbeats 2000000 in
theorem insertKepts_grow (w : World) (g n cap k vb : Nat) (cs rest vs : List Value) (tv : TypeId) (hg : w.heap[g]? = some (.cells (cs ++ rest).toArray 96 (0, 0))) (hv : w.heap[vb]? = some (.cells vs.toArray tv (0, 0)))
    (hl : cs.length = n * 16) (hvl : vs.length = 16) (hnc : n ≤ cap) (hroom : cap < n + 1) (hlim : (n + 1) * 168 ≤ lim) (hk : k < n) (h1 : ∀ u ∈ cs, u.oneCell' = true) (h2 : ∀ u ∈ vs, u.oneCell' = true) :
    Calls Tryz.prog 140 #[.slice (some ⟨g, 0, none⟩) n cap, .int .i64 (k : Int), .slice (some ⟨vb, 0, none⟩) 1 1] w fun e w' => ∃ cap' rest', e = .returned (.slice (some ⟨w.heap.size, 0, none⟩) (n + 1) cap') ∧ (n + 1 ≤ cap' ∧ cap' ≤ maxLen) ∧ ((cs.take (k * 16) ++ vs ++ cs.drop (k * 16)) ++ rest').length = cap' * 16 ∧ w'.heap[w.heap.size]? = some (.cells ((cs.take (k * 16) ++ vs ++ cs.drop (k * 16)) ++ rest').toArray 96 (0, 0)) ∧ Fr w w' := by
  obtain ⟨i0, hi0, hi1⟩ := Option.map_eq_some_iff.1 infoKept
  simp only [Prod.mk.injEq] at hi1
  obtain ⟨hz0, hz1, hz2⟩ := hi1
  have hlim2 := hlim
  unfold lim at hlim2
  have hsz : (Tryz.prog.info? 96).map (·.size) = some 16 := by rw [hi0]; simp [hz1]
  have hgl : g < w.heap.size := (Array.getElem?_eq_some_iff.1 hg).1
  have hvl2 : vb < w.heap.size := (Array.getElem?_eq_some_iff.1 hv).1
  have hkn : k * 16 + 16 ≤ n * 16 := by have := Nat.mul_le_mul_right 16 (show k + 1 ≤ n from hk); rw [Nat.add_mul] at this; omega
  have hcap : n = cap := by omega
  obtain ⟨G, hG⟩ : ∃ G, G = grownCap w (k + (n + 1 - k)) cap 96 := ⟨_, rfl⟩
  have hge := grownCap_ge w (k + (n + 1 - k)) cap 96
  have hle := grownCap_le_maxLen w (k + (n + 1 - k)) cap 96 (by unfold maxLen; omega)
  rw [← hG] at hge hle
  unfold maxLen at hle
  obtain ⟨olds, hol⟩ : ∃ olds, olds = cs.take (k * 16) := ⟨_, rfl⟩
  have holl : olds.length = k * 16 := by rw [hol, List.length_take]; omega
  obtain ⟨cur, hcur⟩ : ∃ cur : List Value, cur = (olds.toArray ++ Builtin.zeroCells (.agg #[.int .i64 0, .int .i64 0, .int .i64 0, .int .i64 0, .int .i64 0, .int .i64 0, .bool false, .slice none 0 0, .slice none 0 0, .int .i64 0, .int .i64 0, .int .i64 0, .int .i64 0, .slice none 0 0, .bool false, .bool false] : Value).cells (n + 1 - k) ++ Builtin.zeroCells (.agg #[.int .i64 0, .int .i64 0, .int .i64 0, .int .i64 0, .int .i64 0, .int .i64 0, .bool false, .slice none 0 0, .slice none 0 0, .int .i64 0, .int .i64 0, .int .i64 0, .int .i64 0, .slice none 0 0, .bool false, .bool false] : Value).cells (G - (k + (n + 1 - k)))).toList := ⟨_, rfl⟩
  have hcl : cur.length = G * 16 := by
    rw [hcur, Array.length_toList, Array.size_append, Array.size_append, size_zeroCells, size_zeroCells, List.size_toArray, holl]
    show k * 16 + (n + 1 - k) * 16 + (G - (k + (n + 1 - k))) * 16 = G * 16
    rw [← Nat.add_mul, ← Nat.add_mul]; congr 1; omega
  have hct : cur.take (k * 16) = olds := by
    rw [hcur, Array.toList_append, Array.toList_append, List.append_assoc]
    exact List.take_left' holl
  have hfirst : (Builtin.firstCells i0.size k (.slice (some ⟨g, 0, none⟩) k cap)).run Tryz.prog w.drew = .ok olds.toArray w.drew := by
    have := run_loadCells_list (P := Tryz.prog) w.drew ⟨g, 0, none⟩ olds fun j v hj => by
      rw [zero_add_addr]
      refine cells_at (w := w.drew) hg ?_
      rw [hol, List.getElem?_take] at hj
      split at hj
      · exact hj
      · cases hj
    unfold Builtin.firstCells
    rw [hz1, ← holl]
    exact this
  obtain ⟨W1, hW1⟩ : ∃ W1, W1 = w.drew.alloc (.cells cur.toArray 96) := ⟨_, rfl⟩
  have hn1 : k + (n + 1 - k) = n + 1 := by omega
  have hrz : Hid (∀ ty, (Builtin.append_ #[23, 3] ty #[.slice (some ⟨g, 0, none⟩) k cap, .int .i64 ((n : Int) + 1 - (k : Int))]).run Tryz.prog w = .ok (.slice (some ⟨w.heap.size, 0, none⟩) (n + 1) G) W1) := fun ty => by
    have h := Lib.run_append_grow_zeros (P := Tryz.prog) w 23 3 ty 96 i0 (.agg #[.int .i64 0, .int .i64 0, .int .i64 0, .int .i64 0, .int .i64 0, .int .i64 0, .bool false, .slice none 0 0, .slice none 0 0, .int .i64 0, .int .i64 0, .int .i64 0, .int .i64 0, .slice none 0 0, .bool false, .bool false]) .i64 .i64 Tryz.underlying23 Tryz.underlying3 hi0 hz0 (some ⟨g, 0, none⟩) k cap olds hfirst (n + 1 - k) (by omega) (by rw [hz1]; decide) (by omega) (by omega)
      (by rw [hz2]; exact Nat.le_trans (Nat.mul_le_mul_right _ (by omega : n + 1 - k ≤ n + 1)) (by unfold lim at hlim; omega)) (by rw [hz2, hn1]; exact growslice_fits (by omega) (by unfold lim at hlim; exact hlim))
    have ec : ((n + 1 - k : Nat) : Int) = (n : Int) + 1 - (k : Int) := by omega
    rw [ec] at h
    rw [h, hW1, hcur, hG, hn1, Array.toArray_toList]
  have hg1 : W1.heap[w.heap.size]? = some (.cells cur.toArray 96 (0, 0)) := by rw [hW1]; exact heap_alloc_new w.drew _
  have hv1 : W1.heap[vb]? = some (.cells vs.toArray tv (0, 0)) := by rw [hW1]; exact heap_old (w := w.drew) hv
  have hgo1 : W1.heap[g]? = some (.cells (cs ++ rest).toArray 96 (0, 0)) := by rw [hW1]; exact heap_old (w := w.drew) hg
  have hF1 : Fr w W1 := by rw [hW1]; exact (Below.refl _ _).drew.alloc (Nat.le_refl _) _
  obtain ⟨cur1, hcur1⟩ : ∃ cur1, cur1 = cur.take (k * 16) ++ vs ++ cur.drop (k * 16 + vs.length) := ⟨_, rfl⟩
  have hcG : k * 16 + 16 + (n - k) * 16 ≤ G * 16 := by
    have : k * 16 + 16 + (n - k) * 16 = (n + 1) * 16 := by
      rw [Nat.sub_mul, Nat.add_mul]; omega
    rw [this]; exact Nat.mul_le_mul_right _ (by omega)
  have hcl1 : cur1.length = G * 16 := by rw [hcur1]; simp only [List.length_append, List.length_take, List.length_drop]; omega
  obtain ⟨W2, hW2⟩ : ∃ W2, W2 = W1.setRow w.heap.size cur1.toArray := ⟨_, rfl⟩
  have hcp1 : Hid (∀ ty dc, (Builtin.copy_ #[23, 23] ty #[.slice (some ⟨w.heap.size, k * 16, none⟩) (n + 1 - k) dc, .slice (some ⟨vb, 0, none⟩) 1 1]).run Tryz.prog W1 = .ok (goInt (Nat.min 1 (n + 1 - k))) W2) := fun ty dc => by
    rw [hW2, hcur1]
    refine run_copyN W1 _ _ ty 96 16 w.heap.size (k * 16) (n + 1 - k) dc ⟨vb, 0, none⟩ 1 1 cur 96 vs Tryz.underlying23 hsz hg1 ?_ (fun j v hj => ?_) (by rw [hcl, hvl]; omega) h2
    · rw [hvl, show Nat.min 1 (n + 1 - k) = 1 by simp only [Nat.min_def]; split <;> omega, Nat.one_mul]
    · rw [zero_add_addr, cell_of_heap hv1, List.getElem?_toArray]; exact hj
  have hg2 : W2.heap[w.heap.size]? = some (.cells cur1.toArray 96 (0, 0)) := by rw [hW2]; exact setRow_heap W1 _ _ _ 96 _ hg1
  have hgo2 : W2.heap[g]? = some (.cells (cs ++ rest).toArray 96 (0, 0)) := by rw [hW2, setRow_other W1 _ _ _ (by omega)]; exact hgo1
  obtain ⟨W3, hW3⟩ : ∃ W3, W3 = W2.drew.setRow w.heap.size (cur1.take ((k + 1) * 16) ++ cs.drop (k * 16) ++ cur1.drop ((k + 1) * 16 + (cs.drop (k * 16)).length)).toArray := ⟨_, rfl⟩
  have hdl : (cs.drop (k * 16)).length = (n - k) * 16 := by rw [List.length_drop, hl, ← Nat.sub_mul]
  have hdk : (k + 1) * 16 = k * 16 + 16 := by rw [Nat.add_mul, Nat.one_mul]
  have hcp2 : Hid (∀ ty dc sc, (Builtin.copy_ #[23, 23] ty #[.slice (some ⟨w.heap.size, (k + 1) * 16, none⟩) (n + 1 - (k + 1)) dc, .slice (some ⟨g, k * 16, none⟩) (n - k) sc]).run Tryz.prog W2.drew = .ok (goInt (Nat.min (n - k) (n + 1 - (k + 1)))) W3) := fun ty dc sc => by
    rw [hW3]
    refine run_copyN W2.drew _ _ ty 96 16 w.heap.size ((k + 1) * 16) (n + 1 - (k + 1)) dc ⟨g, k * 16, none⟩ (n - k) sc cur1 96 (cs.drop (k * 16)) Tryz.underlying23 hsz hg2 ?_ (fun j v hj => ?_) (by rw [hcl1, hdl]; omega) (fun u hu => h1 u (List.mem_of_mem_drop hu))
    · rw [hdl]; congr 1; simp only [Nat.min_def]; split <;> omega
    · rw [Addr.add_lit]
      rw [List.getElem?_drop] at hj
      exact cells_at (w := W2.drew) hgo2 hj
  have R : Hid (∃ rest', ((cs.take (k * 16) ++ vs ++ cs.drop (k * 16)) ++ rest').length = G * 16 ∧ W3.heap[w.heap.size]? = some (.cells ((cs.take (k * 16) ++ vs ++ cs.drop (k * 16)) ++ rest').toArray 96 (0, 0))) := by
    refine ⟨cur1.drop ((k + 1) * 16 + (cs.drop (k * 16)).length), by simp only [List.length_append, List.length_take, List.length_drop]; omega, ?_⟩
    rw [hW3, setRow_heap W2.drew w.heap.size _ _ 96 _ hg2]
    have e1 : cur1.take ((k + 1) * 16) = cs.take (k * 16) ++ vs := by
      rw [hcur1, hct, hol]
      exact List.take_left' (by rw [List.length_append, List.length_take, hvl]; omega)
    rw [e1]
  have R2 : Hid (Fr w W3) := by
    rw [hW3, hW2]
    exact below_setRow (below_setRow hF1 (Nat.le_refl _) _).drew (Nat.le_refl _) _
  have RG : Hid (n + 1 ≤ G ∧ G ≤ maxLen) := ⟨by omega, by unfold maxLen; omega⟩
  have q1 : ¬ ((k : Int) = (n : Int)) := by omega
  have q2 : ((k : Int) == (n : Int)) = false := by simp; omega
  have q3 : (n : Int) + 1 > (cap : Int) := by omega
  have q4 : ¬ G = k + 1 := by omega
  have q5 : ¬ G = k := by omega
  have q55 : ¬ cap = k := by omega
  have q6 : (k : Int) ≤ (n : Int) := by omega
  have q8 : (k : Int) + 1 ≤ (n : Int) + 1 := by omega
  have q9 : (0 : Int) ≤ (k : Int) + 1 := by omega
  have q10 : (k : Int) ≤ (n : Int) + 1 := by omega
  have q11 : k ≤ cap := by omega
  have q12 : (k : Int) ≤ (cap : Int) := by omega
  have hnz : n ≤ 140737488355328 := by omega
  clear hg hv hl hvl h1 h2 hi0 hz0 hz1 hz2 hsz hcur hcur1 hdl hdk hcl hcl1 hg1 hg2 hgo1 hgo2 hv1 hW1 hW2 hW3 hkn hcG hct hfirst hF1 hG hol holl hcap hlim hlim2 hn1 hge
  have hcpA := hcp1.out
  have hcpB := hcp2.out
  try simp only [Nat.mul_one] at hcpA hcpB
  have HA := Lib.hid hcpA
  have HB := Lib.hid hcpB
  clear hcpA hcpB
  have qw : IntKind.i64.wrap ((k : Int) + 1) = (k : Int) + 1 := by rw [IntKind.wrap_i64]; omega
  have qt : ((k : Int) + 1).toNat = k + 1 := by omega
  go_enter Tryz.func140, Tryz.ntmps140
  go_wp2_with (first | (refine wpList_copy_eq _ rfl (.tmp 43) (.tmp 44) 23 23 rfl _ _ rfl rfl (HA.out _ (G - k)) ?_) | (at_builtin; refine Lib.wpList_append_run _ rfl _ _ _ _ rfl _ _ rfl rfl _ _ (hrz.out _) ?_))
  go_region_law (refine step_copy_eq rfl (.tmp 50) (.tmp 53) 23 23 rfl _ _ (by simp [Act.eval, Act.put]) (by simp [Act.eval, Act.put]) (HB.out _ (G - (k + 1)) (cap - k)) ?_)
  go_wp2
  go_ret
  obtain ⟨rest', r1, r2⟩ := R.out
  exact ⟨G, rest', rfl, RG.out, r1, r2, R2.out⟩
set_option maxHeartbeats 1000000 in
theorem insertKepts_end (w : World) (base vb : Nat) (A : Option Addr) (n c : Nat) (xs : List (Bool × Kp)) (x : Bool × Kp) (vs : List Value) (tv : TypeId) (ho : Own 16 (eHi N eKq) w base 96 (.slice A n c) xs) (hn : n = xs.length) (hv : w.heap[vb]? = some (.cells vs.toArray tv (0, 0)))
    (hvl : vs.length = 16) (h2 : ∀ u ∈ vs, u.oneCell' = true) (hx : (eHi N eKq) w (fun b => b < w.heap.size ∧ (Value.slice A n c).ownBlock ≠ some b) (fun j => vs[j]?) x) (hlim : (xs.length + 1) * 168 ≤ lim) (hb : base ≤ w.heap.size) (hnc : n ≤ c) (hcm : c ≤ maxLen) :
    Calls Tryz.prog 140 #[.slice A n c, .int .i64 (n : Int), .slice (some ⟨vb, 0, none⟩) 1 1] w fun e w' => ∃ v', e = .returned v' ∧ Own 16 (eHi N eKq) w' base 96 v' (xs ++ [x]) ∧ w.grownBy w' (Value.slice A n c).ownBlock := by
  have q1 : ((n : Int) == (n : Int)) = true := by simp
  have hcm2 := hcm
  unfold maxLen at hcm2
  have hlim2 := hlim
  unfold lim at hlim2
  have hml : xs.length + 1 ≤ maxLen := by unfold maxLen; omega
  have hys : Hid (∀ (i : Nat) (y : Bool × Kp), [x][i]? = some y → (eHi N eKq) w (fun b => b < w.heap.size ∧ (Value.slice A n c).ownBlock ≠ some b) (fun j => vs[i * 16 + j]?) y) := fun i y hy => by
    cases i with
    | zero => obtain rfl : x = y := by simpa using hy
              simpa using hx
    | succ i => simp at hy
  have hcell : Hid (∀ j u, vs[j]? = some u → w.cell? ((⟨vb, 0, none⟩ : Addr).add j) = some u) := fun j u hu => by rw [zero_add_addr, cell_of_heap hv, List.getElem?_toArray]; exact hu
  have hvl2 : Hid (vs.length = 1 * 16) := by rw [Hid, hvl]
  clear hx hv hvl hlim2
  (have H2 := Lib.hid h2; clear h2; have Ho := Lib.hid ho; clear ho; have Hn := Lib.hid hn; clear hn; have Hlim := Lib.hid hlim; clear hlim)
  by_cases hcn : c = n
  · subst hcn
    go_enter Tryz.func140, Tryz.ntmps140
    go_wp2_with (at_builtin; refine wpList_apps _ rfl _ _ 23 rfl base 96 _ _ _ Tryz.underlying23 infoKept rfl (by decide) (sKq.hi N) _ xs rfl Ho.out ⟨vb, 0, none⟩ 1 1 vs rfl hvl2.out hcell.out H2.out [x] rfl hys.out hml Hlim.out hb ?_)
    intro v' w1 hown hg hge
    have HO := Lib.hid hown
    have HG := Lib.hid hg
    clear hown hg hge
    go_wp2
    go_ret
    exact ⟨v', rfl, HO.out, HG.out⟩
  · go_enter Tryz.func140, Tryz.ntmps140
    go_wp2_with (at_builtin; refine wpList_apps _ rfl _ _ 23 rfl base 96 _ _ _ Tryz.underlying23 infoKept rfl (by decide) (sKq.hi N) _ xs rfl Ho.out ⟨vb, 0, none⟩ 1 1 vs rfl hvl2.out hcell.out H2.out [x] rfl hys.out hml Hlim.out hb ?_)
    intro v' w1 hown hg hge
    have HO := Lib.hid hown
    have HG := Lib.hid hg
    clear hown hg hge
    go_wp2
    go_ret
    exact ⟨v', rfl, HO.out, HG.out⟩

theorem insertKepts_own (w : World) (base k vb : Nat) (v : Value) (xs : List (Bool × Kp)) (x : Bool × Kp) (vs : List Value) (tv : TypeId) (ho : Own 16 (eHi N eKq) w base 96 v xs) (hk : k ≤ xs.length) (hv : w.heap[vb]? = some (.cells vs.toArray tv (0, 0))) (hvb : v.ownBlock ≠ some vb)
    (hvl : vs.length = 16) (h2 : ∀ u ∈ vs, u.oneCell' = true) (hx : (eHi N eKq) w (fun b => b < w.heap.size ∧ v.ownBlock ≠ some b) (fun j => vs[j]?) x) (hlim : (xs.length + 1) * 168 ≤ lim) (hb : base ≤ w.heap.size) :
    Calls Tryz.prog 140 #[v, .int .i64 (k : Int), .slice (some ⟨vb, 0, none⟩) 1 1] w fun e w' => ∃ v', e = .returned v' ∧ Own 16 (eHi N eKq) w' base 96 v' (xs.take k ++ x :: xs.drop k) ∧ w.grownBy w' v.ownBlock := by
  by_cases hkn : k = xs.length
  · obtain ⟨A, c, rfl, ⟨hc1, hc2⟩, _⟩ := ho.slC (sKq.hi N) (by decide)
    rw [hkn]
    refine (insertKepts_end w base vb A xs.length c xs x vs tv ho rfl hv hvl h2 hx hlim hb hc1 hc2).mono fun e w' ⟨v', h1, h2, h3⟩ => ⟨v', h1, ?_, h3⟩
    rw [List.take_length, List.drop_length]; exact h2
  · have hlt : k < xs.length := by omega
    obtain ⟨g, cap, cs, rest, rfl, hbg, hg, hnc, hcm, hl, hall, h1, hr⟩ := own_row (fKq.hi N) (by decide) ho (by omega)
    have hne : vb ≠ g := fun e => hvb (by rw [e]; rfl)
    have hins : (xs.take k ++ x :: xs.drop k).length = xs.length + 1 := by simp only [List.length_append, List.length_take, List.length_cons, List.length_drop]; omega
    have hcl : (cs.take (k * 16) ++ vs ++ cs.drop (k * 16)).length = (xs.take k ++ x :: xs.drop k).length * 16 := by
      have : k * 16 ≤ xs.length * 16 := Nat.mul_le_mul_right _ (by omega)
      rw [hins, Nat.add_mul, Nat.one_mul]
      simp only [List.length_append, List.length_take, List.length_drop]; omega
    have hrd : ∀ (S : Nat → Prop) (W : World) , (∀ b, b < w.heap.size ∧ b ≠ g → S b) → (∀ p : Addr, p.block < w.heap.size → p.block ≠ g → W.cell? p = w.cell? p) → ∀ i y, (xs.take k ++ x :: xs.drop k)[i]? = some y → (eHi N eKq) W S (fun j => (cs.take (k * 16) ++ vs ++ cs.drop (k * 16))[i * 16 + j]?) y := by
      intro S W hS hW i y hy
      rcases ins_list hk hy with ⟨e1, e2⟩ | ⟨e1, e2⟩
      · subst e1 e2
        refine ((sKq.hi N)).mono (fun j u hj hu => ins_get hl hvl hk hj hy (by rw [if_pos rfl]; exact hu)) (((sKq.hi N)).more (S := fun b => b < w.heap.size ∧ (Value.slice (some ⟨g, 0, none⟩) xs.length cap).ownBlock ≠ some b) (fun b hb => hS b ⟨hb.1, fun e => hb.2 (by rw [e]; rfl)⟩) (((sKq.hi N)).keep (fun p hp => hW p hp.1 fun e => hp.2 (by rw [e]; rfl)) hx))
      · refine ((sKq.hi N)).mono (fun j u hj hu => ins_get hl hvl hk hj hy (by rw [if_neg e1]; exact hu)) (((sKq.hi N)).more hS (((sKq.hi N)).keep (fun p hp => hW p hp.1 hp.2) (hr _ y e2)))
    by_cases hroom : xs.length + 1 ≤ cap
    · refine (insertKepts_room w g xs.length cap k vb cs rest vs tv hg hv hne hl hvl hall hroom hcm hlt h1 h2).mono ?_
      rintro e w' ⟨rfl, ⟨rest', hrl, hg'⟩, hG⟩
      refine ⟨_, rfl, ?_, hG⟩
      rw [← hins]
      exact row_own (w := w) (sKq.hi N) hbg hg' hG (by rw [hins]; exact hroom) hcm hcl (by rw [← List.length_append]; exact hrl) fun i y hy => hrd _ w (fun b hb => hb) (fun _ _ _ => rfl) i y hy
    · refine (insertKepts_grow w g xs.length cap k vb cs rest vs tv hg hv hl hvl hnc (by omega) hlim hlt h1 h2).mono ?_
      rintro e w' ⟨cap', rest', rfl, hcap', hrl, hg', hF⟩
      refine ⟨_, rfl, ?_, ⟨hF.os, hF.tape, hF.output, hF.size, fun b hb _ => hF.block b hb⟩⟩
      rw [← hins]
      exact row_own (w := w') (sKq.hi N) hb hg' ⟨rfl, rfl, rfl, Nat.le_refl _, fun _ _ _ => rfl⟩ (by rw [hins]; exact hcap'.1) hcap'.2 hcl (by rw [← List.length_append]; exact hrl) fun i y hy => hrd _ w' (fun b hb => ⟨Nat.lt_of_lt_of_le hb.1 hF.size, by omega⟩) (fun p hp _ => hF.cell hp) i y hy
end
end Go.Proofs.YtmiaplgfbphfmaaGreatDoor
namespace Go.Proofs.YtmiaplgfbphfmaaGreatDoor
open Go.RowKit

end Go.Proofs.YtmiaplgfbphfmaaGreatDoor
namespace Go.Proofs.YtmiaplgfbphfmaaGreatDoor
open Go.RowKit
attribute [local irreducible] wpList

/-- Bytes of the call's own lie in blocks that it made. -/
theorem own_bytes {w : World} {base : Nat} {e : TypeId} {v : Value} {l : List UInt8} (h : Own 1 eByte w base e v l) : ∃ A c, v = .slice A l.length c ∧ (l.length ≤ c ∧ c ≤ maxLen) ∧ Sl 1 eByte w (NW base w.heap.size) A l.length l := by
  obtain ⟨cs, ho, hr⟩ := h
  rcases ho.2 with ⟨rfl, h0⟩ | ⟨g, cap, cur, rfl, hbg, hg, hnc, hcm, hcs, htake⟩
  · exact ⟨none, 0, by rw [h0], ⟨by omega, by unfold maxLen; omega⟩, rfl, fun hn => by omega⟩
  · refine ⟨some ⟨g, 0, none⟩, cap, rfl, ⟨hnc, hcm⟩, rfl, fun hn => ⟨_, rfl, ⟨hbg, (Array.getElem?_eq_some_iff.1 hg).1⟩, fun i x hx => ?_⟩⟩
    have hu : cs[i * 1 + 0]? = some (.int .u8 (x.toNat : Int)) := hr i x hx
    show w.cell? _ = _
    rw [zero_add_addr, cell_of_heap hg]
    rw [← htake, List.getElem?_take] at hu
    split at hu
    · simpa using hu
    · cases hu

end Go.Proofs.YtmiaplgfbphfmaaGreatDoor
namespace Go.Proofs.YtmiaplgfbphfmaaGreatDoor
open Go.RowKit

/-- A reading off told blocks. -/
def eIn {α : Type} (T : Nat → Prop) (r : ERd α) : ERd α := fun w S f x => r w (fun b => S b ∧ T b) f x
theorem Stable.inn {α : Type} {size : Nat} {r : ERd α} (s : Stable size r) (T : Nat → Prop) : Stable size (eIn T r) :=
  ⟨fun hk h => s.keep (fun p hp => hk p hp.1) h, fun hB h => s.more (fun b hb => ⟨hB b hb.1, hb.2⟩) h, fun hf h => s.mono hf h⟩
theorem Full.inn {α : Type} {size : Nat} {r : ERd α} (F : Full size r) (T : Nat → Prop) : Full size (eIn T r) := fun h j hj => F h j hj
section
variable {α : Type} {size : Nat} {r r' : ERd α} {w w' : World} {base : Nat} {e : TypeId} {v : Value} {xs : List α} {S T : Nat → Prop}
theorem Own.chgG (h : Own size r w base e v xs) (k : Chg S w w') (hv : ∀ b, v.ownBlock = some b → ¬ S b) (hr : ∀ f x, r w (fun b => b < w.heap.size ∧ v.ownBlock ≠ some b) f x → r' w' (fun b => b < w'.heap.size ∧ v.ownBlock ≠ some b) f x) : Own size r' w' base e v xs := by
  obtain ⟨cs, ho, hrd⟩ := h
  refine ⟨cs, ⟨ho.1, ?_⟩, fun i x hx => hr _ _ (hrd i x hx)⟩
  rcases ho.2 with h0 | ⟨g, cap, cur, h1, h2, h3, h4⟩
  · exact .inl h0
  · exact .inr ⟨g, cap, cur, h1, h2, k.blk h3 (hv g (by rw [h1]; rfl)), h4⟩
theorem Own.inChg (s : Stable size r) (h : Own size (eIn T r) w base e v xs) (k : Chg S w w') (hv : ∀ b, v.ownBlock = some b → ¬ S b) (hT : ∀ b, T b → ¬ S b) : Own size (eIn T r) w' base e v xs :=
  h.chgG k hv fun f x hx => s.more (fun b hb => ⟨⟨Nat.lt_of_lt_of_le hb.1.1 k.size, hb.1.2⟩, hb.2⟩) (s.keep (fun p hp => k.cell hp.1.1 (hT _ hp.2)) hx)
theorem Own.slIn (s : Stable size r) (h : Own size (eIn T r) w base e v xs) : ∃ A c, v = .slice A xs.length c ∧ (xs.length ≤ c ∧ c ≤ maxLen) ∧ Sl size r w (fun b => b < w.heap.size ∧ (v.ownBlock = some b ∨ T b)) A xs.length xs := by
  obtain ⟨cs, ho, hr⟩ := h
  rcases ho.2 with ⟨rfl, h0⟩ | ⟨g, cap, cur, rfl, hbg, hg, hnc, hcm, hcs, htake⟩
  · exact ⟨none, 0, by rw [h0], ⟨by omega, by unfold maxLen; omega⟩, rfl, fun hn => by omega⟩
  · refine ⟨some ⟨g, 0, none⟩, cap, rfl, ⟨hnc, hcm⟩, rfl, fun hn => ⟨_, rfl, ⟨(Array.getElem?_eq_some_iff.1 hg).1, .inl rfl⟩, fun i x hx => ?_⟩⟩
    refine s.mono (fun j u hj hu => ?_) (s.more (fun b hb => ⟨hb.1.1, .inr hb.2⟩) (hr i x hx))
    rw [zero_add_addr, cell_of_heap hg]
    rw [← htake, List.getElem?_take] at hu
    split at hu
    · simpa using hu
    · cases hu
theorem Own.len (h : Own size r w base e v xs) : ∀ A n c, v = .slice A n c → n = xs.length := by
  obtain ⟨cs, ho, _⟩ := h
  intro A n c e1
  rcases ho.2 with ⟨h0, h1⟩ | ⟨g, cap, cur, h0, _⟩
  · rw [h0] at e1; injection e1 with _ e1; omega
  · rw [h0] at e1; injection e1 with _ e1; exact e1.symm
theorem Own.ge (h : Own size r w base e v xs) {b : Nat} (hb : v.ownBlock = some b) : base ≤ b ∧ b < w.heap.size := by
  obtain ⟨cs, ho, _⟩ := h
  exact ho.lt b hb
/-- Its block is of its type. -/
theorem Own.tag (h : Own size r w base e v xs) {b : Nat} (hb : v.ownBlock = some b) : ∃ cur, w.heap[b]? = some (.cells cur e (0, 0)) := by
  obtain ⟨cs, ho, _⟩ := h
  rcases ho.2 with ⟨h0, h1⟩ | ⟨g, cap, cur, h0, h2, h3, _⟩
  · rw [h0] at hb; simp [Value.ownBlock] at hb
  · rw [h0] at hb
    have : g = b := by simpa [Value.ownBlock] using hb
    rw [← this]; exact ⟨cur, h3⟩
theorem Own.notBlk (h : Own size r w base e v xs) {b g : Nat} {cur : Array Value} {t : TypeId} {fr : Nat × Nat} (hg : w.heap[g]? = some (.cells cur t fr)) (hne : e ≠ t) (hb : v.ownBlock = some b) : b ≠ g := by
  obtain ⟨c2, h2⟩ := h.tag hb
  intro e1
  rw [e1, hg] at h2
  injection h2 with h2
  injection h2 with _ h2
  exact hne h2.symm
end
theorem Own.tk {w w' : World} {base : Nat} {e : TypeId} {v : Value} {xs : List Tk} {S : Nat → Prop} (h : Own 2 eTk w base e v xs) (k : Chg S w w') (hv : ∀ b, v.ownBlock = some b → ¬ S b) : Own 2 eTk w' base e v xs :=
  h.chgG k hv fun f x hx => eTk_iff.2 (eTk_iff.1 hx)
theorem Own.tkIn {w : World} {base : Nat} {e : TypeId} {v : Value} {xs : List Tk} (h : Own 2 eTk w base e v xs) (T : Nat → Prop) : Own 2 (eIn T eTk) w base e v xs :=
  h.chgG (S := fun _ => False) (Chg.refl _ _) (fun _ _ e => e) fun f x hx => eTk_iff.2 (eTk_iff.1 hx)

def kpCells (x : Kp) (A : Option Addr) (n c : Nat) (vS vT : Value) : List Value := [.int .i64 x.h.frm, .int .i64 x.h.seq, .int .i64 x.h.to, .int .i64 x.h.till, .int .i64 x.h.bytes, .int .i64 x.h.block, .bool x.own, .slice A n c, vS, .int .i64 x.shares, .int .i64 x.giving, .int .i64 x.towards, .int .i64 x.try_, vT, .bool x.delivered, .bool x.purged]
/-- What the cells and the blocks behind them say of a bundle, for it to be read. -/
theorem kp_read {w : World} {S T : Nat → Prop} {base : Nat} {x : Kp} {A : Option Addr} {n c : Nat} {vS vT : Value} {f : Nat → Option Value} {e e' : TypeId} (hf : ∀ t, t < 16 → f t = (kpCells x A n c vS vT)[t]?) (hw : x.wf)
    (hc : Byt w S A n c x.cargo) (hs : Own 2 (eIn T eSm) w base e vS x.syms) (ht : Own 2 eTk w base e' vT x.took) (l1 : x.syms.length ≤ 60) (l2 : x.took.length ≤ 40)
    (q1 : ∀ b, b < w.heap.size → vS.ownBlock = some b ∨ T b → S b) (q2 : ∀ b, vT.ownBlock = some b → S b) : eKp w S f x := by
  obtain ⟨A2, c2, e2, b2, s2⟩ := hs.slIn sSm
  obtain ⟨A3, c3, e3, b3, s3⟩ := (ht.tkIn (fun _ => False)).slIn sTk
  subst e2 e3
  refine eKp_iff.2 ⟨A, n, c, A2, x.syms.length, c2, A3, x.took.length, c3, ⟨hf 0 (by decide), hf 1 (by decide), hf 2 (by decide), hf 3 (by decide), hf 4 (by decide), hf 5 (by decide), hf 6 (by decide), hf 7 (by decide), hf 8 (by decide), hf 9 (by decide), hf 10 (by decide), hf 11 (by decide), hf 12 (by decide), hf 13 (by decide), hf 14 (by decide), hf 15 (by decide)⟩, hw, hc, ⟨⟨by unfold lim; omega, b2⟩, s2.more sSm fun b hb => q1 b hb.1 hb.2⟩, ⟨by unfold lim; omega, b3⟩, s3.more sTk fun b hb => ?_⟩
  rcases hb.2 with h | h
  · exact q2 b h
  · exact h.elim

/-- A bundle whose blocks lie from l to u. -/
def KpM (w : World) (l u : Nat) (f : Nat → Option Value) (x : Kp) : Prop :=
  ∃ A n c vS vT, (∀ t, t < 16 → f t = (kpCells x A n c vS vT)[t]?) ∧ x.wf ∧ Byt w (fun b => l ≤ b ∧ b < u ∧ vS.ownBlock ≠ some b ∧ vT.ownBlock ≠ some b) A n c x.cargo ∧
    Own 2 (eIn (fun b => l ≤ b ∧ b < u ∧ vS.ownBlock ≠ some b ∧ vT.ownBlock ≠ some b) eSm) w l 38 vS x.syms ∧ Own 2 eTk w l 131 vT x.took ∧ (∀ b, vS.ownBlock = some b → b < u ∧ vT.ownBlock ≠ some b) ∧ (∀ b, vT.ownBlock = some b → b < u) ∧ x.syms.length ≤ 60 ∧ x.took.length ≤ 40
theorem KpM.chg {w w' : World} {l u : Nat} {f : Nat → Option Value} {x : Kp} {S : Nat → Prop} (h : KpM w l u f x) (k : Chg S w w') (hu : u ≤ w.heap.size) (hS : ∀ b, l ≤ b → b < u → ¬ S b) : KpM w' l u f x := by
  obtain ⟨A, n, c, vS, vT, h1, h2, h3, h4, h5, h6, h7, h8⟩ := h
  exact ⟨A, n, c, vS, vT, h1, h2, ⟨h3.1, h3.2.keep sByte fun p hp => k.cell (Nat.lt_of_lt_of_le hp.2.1 hu) (hS _ hp.1 hp.2.1)⟩, h4.inChg sSm k (fun b hb => hS b (h4.ge hb).1 (h6 b hb).1) (fun b hb => hS b hb.1 hb.2.1), h5.tk k (fun b hb => hS b (h5.ge hb).1 (h7 b hb)), h6, h7, h8⟩
theorem KpM.read {w : World} {l u : Nat} {f : Nat → Option Value} {x : Kp} {S : Nat → Prop} (h : KpM w l u f x) (hS : ∀ b, l ≤ b → b < u → S b) : eKp w S f x := by
  obtain ⟨A, n, c, vS, vT, h1, h2, h3, h4, h5, h6, h7, h8, h9⟩ := h
  refine kp_read h1 h2 ⟨h3.1, h3.2.more sByte fun b hb => hS b hb.1 hb.2.1⟩ h4 h5 h8 h9 (fun b _ hb => ?_) fun b hb => hS b (h5.ge hb).1 (h7 b hb)
  rcases hb with hb | hb
  · exact hS b (h4.ge hb).1 (h6 b hb).1
  · exact hS b hb.1 hb.2.1
/-- All bundles of a place, each in blocks of its own. -/
structure AllM (w : World) (base : Nat) (v : Value) (xs : List Kp) (lo : Nat → Nat) : Prop where
  own : ∃ cs, w.ownsRow base 96 16 v xs.length cs ∧ ∀ i x, xs[i]? = some x → KpM w (lo i) (lo (i + 1)) (fun j => cs[i * 16 + j]?) x
  mono : ∀ i j, i ≤ j → lo i ≤ lo j
  top : lo xs.length ≤ w.heap.size
  bot : base ≤ lo 0
  far : ∀ b, v.ownBlock = some b → b < lo 0
theorem AllM.chg {w w' : World} {base : Nat} {v : Value} {xs : List Kp} {lo : Nat → Nat} {S : Nat → Prop} (h : AllM w base v xs lo) (k : Chg S w w') (hS : ∀ b, base ≤ b → b < w.heap.size → ¬ S b) : AllM w' base v xs lo := by
  obtain ⟨cs, ho, hr⟩ := h.own
  refine ⟨⟨cs, ⟨ho.1, ?_⟩, fun i x hx => ?_⟩, h.mono, Nat.le_trans h.top k.size, h.bot, h.far⟩
  · rcases ho.2 with h0 | ⟨g, cap, cur, h1, h2, h3, h4⟩
    · exact .inl h0
    · exact .inr ⟨g, cap, cur, h1, h2, k.blk h3 (hS g h2 (Array.getElem?_eq_some_iff.1 h3).1), h4⟩
  · have hi := (List.getElem?_eq_some_iff.1 hx).1
    have e1 := h.mono (i + 1) xs.length hi
    have e2 := h.mono 0 i (Nat.zero_le _)
    have e3 := h.bot
    have e4 := h.top
    exact (hr i x hx).chg k (by omega) fun b q1 q2 => hS b (by omega) (by omega)
theorem AllM.toOwn {w : World} {base : Nat} {v : Value} {xs : List Kp} {lo : Nat → Nat} (h : AllM w base v xs lo) : Own 16 (eHi base eKp) w base 96 v xs := by
  obtain ⟨cs, ho, hr⟩ := h.own
  refine ⟨cs, ho, fun i x hx => (hr i x hx).read fun b q1 q2 => ?_⟩
  have hi := (List.getElem?_eq_some_iff.1 hx).1
  have e1 := h.mono (i + 1) xs.length hi
  have e2 := h.mono 0 i (Nat.zero_le _)
  have e3 := h.bot
  have e4 := h.top
  exact ⟨⟨by omega, fun e => by have := h.far b e; omega⟩, by omega⟩
theorem Own.toQ {w : World} {base : Nat} {e : TypeId} {v : Value} {xs : List Kp} (h : Own 16 (eHi base eKp) w base e v xs) : Own 16 (eHi base eKq) w base e v (xs.map fun x => (false, x)) := by
  obtain ⟨cs, ho, hr⟩ := h
  refine ⟨cs, by rw [List.length_map]; exact ho, fun i y hy => ?_⟩
  rw [List.getElem?_map] at hy
  obtain ⟨x, hx, rfl⟩ := Option.map_eq_some_iff.1 hy
  exact ⟨hr i x hx, fun e => by cases e⟩
theorem Own.ofQ {w : World} {base : Nat} {e : TypeId} {v : Value} {ys : List (Bool × Kp)} (h : Own 16 (eHi base eKq) w base e v ys) : Own 16 (eHi base eKp) w base e v (ys.map (·.2)) := by
  obtain ⟨cs, ho, hr⟩ := h
  refine ⟨cs, by rw [List.length_map]; exact ho, fun i y hy => ?_⟩
  rw [List.getElem?_map] at hy
  obtain ⟨x, hx, rfl⟩ := Option.map_eq_some_iff.1 hy
  exact (hr i x hx).1

/-- All bundles of a place, of which one is in hand. -/
structure Foc (T : Nat → Prop) (w : World) (base g cap : Nat) (xs : List Kp) (i : Nat) (x : Kp) (A : Option Addr) (n c : Nat) (vS vT : Value) : Prop where
  blk : ∃ cs rest : List Value, w.heap[g]? = some (.cells (cs ++ rest).toArray 96 (0, 0)) ∧ cs.length = xs.length * 16 ∧ cs.length + rest.length = cap * 16 ∧ (∀ j y, j ≠ i → xs[j]? = some y → eKp w (fun b => b < w.heap.size ∧ T b) (fun t => cs[j * 16 + t]?) y) ∧ ∀ t, t < 16 → cs[i * 16 + t]? = (kpCells x A n c vS vT)[t]?
  low : ∀ b, T b → base ≤ b ∧ b ≠ g
  hbg : base ≤ g
  hcap : xs.length ≤ cap ∧ cap ≤ maxLen
  hi : i < xs.length
  wf : x.wf
  cargo : Byt w (fun b => b < w.heap.size ∧ T b) A n c x.cargo
  syms : Own 2 (eIn T eSm) w base 38 vS x.syms
  took : Own 2 eTk w base 131 vT x.took
  l1 : x.syms.length ≤ 60
  l2 : x.took.length ≤ 40
section
variable {T S : Nat → Prop} {w w' : World} {base g cap : Nat} {xs : List Kp} {i : Nat} {x x' : Kp} {A A' : Option Addr} {n c n' c' : Nat} {vS vT vS' vT' : Value}
theorem Foc.chg (h : Foc T w base g cap xs i x A n c vS vT) (k : Chg S w w') (hg : ¬ S g) (hT : ∀ b, T b → ¬ S b) (q1 : ∀ b, vS.ownBlock = some b → ¬ S b) (q2 : ∀ b, vT.ownBlock = some b → ¬ S b) : Foc T w' base g cap xs i x A n c vS vT := by
  obtain ⟨cs, rest, h1, h2, h3, h4, h5⟩ := h.blk
  refine ⟨⟨cs, rest, k.blk h1 hg, h2, h3, fun j y hj hy => ?_, h5⟩, h.low, h.hbg, h.hcap, h.hi, h.wf, ⟨h.cargo.1, ?_⟩, h.syms.inChg sSm k q1 hT, h.took.tk k q2, h.l1, h.l2⟩
  · exact sKp.more (fun b hb => ⟨Nat.lt_of_lt_of_le hb.1 k.size, hb.2⟩) (sKp.keep (fun p hp => k.cell hp.1 (hT _ hp.2)) (h4 j y hj hy))
  · exact (h.cargo.2.keep sByte fun p hp => k.cell hp.1 (hT _ hp.2)).more sByte fun b hb => ⟨Nat.lt_of_lt_of_le hb.1 k.size, hb.2⟩
theorem Foc.fr (h : Foc T w base g cap xs i x A n c vS vT) (k : Fr w w') : Foc T w' base g cap xs i x A n c vS vT :=
  h.chg (S := fun _ => False) k.chg (fun e => e) (fun _ _ e => e) (fun _ _ e => e) fun _ _ e => e
theorem Foc.gl (h : Foc T w base g cap xs i x A n c vS vT) : g < w.heap.size := by
  obtain ⟨cs, rest, h1, _⟩ := h.blk
  exact (Array.getElem?_eq_some_iff.1 h1).1
theorem Foc.free (h : Foc T w base g cap xs i x A n c vS vT) (o : Nat) : w.frozen? ⟨g, o, none⟩ = false := by
  obtain ⟨cs, rest, h1, _⟩ := h.blk
  exact blk_free h1
theorem Foc.cell (h : Foc T w base g cap xs i x A n c vS vT) {t : Nat} (ht : t < 16) : w.cell? ⟨g, i * 16 + t, none⟩ = (kpCells x A n c vS vT)[t]? := by
  obtain ⟨cs, rest, h1, h2, h3, h4, h5⟩ := h.blk
  have hu : ∃ u, (kpCells x A n c vS vT)[t]? = some u := ⟨_, List.getElem?_eq_getElem (by simpa [kpCells] using ht)⟩
  obtain ⟨u, hu⟩ := hu
  rw [hu]
  exact cells_at h1 ((h5 t ht).trans hu)
theorem Foc.cells (h : Foc T w base g cap xs i x A n c vS vT) : w.cell? ⟨g, i * 16, none⟩ = some (.int .i64 x.h.frm) ∧ w.cell? ⟨g, i * 16 + 1, none⟩ = some (.int .i64 x.h.seq) ∧ w.cell? ⟨g, i * 16 + 2, none⟩ = some (.int .i64 x.h.to) ∧ w.cell? ⟨g, i * 16 + 3, none⟩ = some (.int .i64 x.h.till) ∧ w.cell? ⟨g, i * 16 + 4, none⟩ = some (.int .i64 x.h.bytes) ∧ w.cell? ⟨g, i * 16 + 5, none⟩ = some (.int .i64 x.h.block) ∧ w.cell? ⟨g, i * 16 + 6, none⟩ = some (.bool x.own) ∧ w.cell? ⟨g, i * 16 + 7, none⟩ = some (.slice A n c) ∧ w.cell? ⟨g, i * 16 + 8, none⟩ = some vS ∧ w.cell? ⟨g, i * 16 + 9, none⟩ = some (.int .i64 x.shares) ∧ w.cell? ⟨g, i * 16 + 10, none⟩ = some (.int .i64 x.giving) ∧ w.cell? ⟨g, i * 16 + 11, none⟩ = some (.int .i64 x.towards) ∧ w.cell? ⟨g, i * 16 + 12, none⟩ = some (.int .i64 x.try_) ∧ w.cell? ⟨g, i * 16 + 13, none⟩ = some vT ∧ w.cell? ⟨g, i * 16 + 14, none⟩ = some (.bool x.delivered) ∧ w.cell? ⟨g, i * 16 + 15, none⟩ = some (.bool x.purged) :=
  ⟨h.cell (t := 0) (by decide), h.cell (t := 1) (by decide), h.cell (t := 2) (by decide), h.cell (t := 3) (by decide), h.cell (t := 4) (by decide), h.cell (t := 5) (by decide), h.cell (t := 6) (by decide), h.cell (t := 7) (by decide), h.cell (t := 8) (by decide), h.cell (t := 9) (by decide), h.cell (t := 10) (by decide), h.cell (t := 11) (by decide), h.cell (t := 12) (by decide), h.cell (t := 13) (by decide), h.cell (t := 14) (by decide), h.cell (t := 15) (by decide)⟩
/-- A cell of the one in hand is set. -/
theorem Foc.set (h : Foc T w base g cap xs i x A n c vS vT) {t : Nat} (ht : t < 16) {u : Value} (hc : kpCells x' A' n' c' vS' vT' = (kpCells x A n c vS vT).set t u) (hw : x'.wf) (b1 : Byt w (fun b => b < w.heap.size ∧ T b) A' n' c' x'.cargo) (b2 : Own 2 (eIn T eSm) w base 38 vS' x'.syms) (b3 : Own 2 eTk w base 131 vT' x'.took) (l1 : x'.syms.length ≤ 60) (l2 : x'.took.length ≤ 40) :
    Foc T (w.setCell ⟨g, i * 16 + t, none⟩ u) base g cap xs i x' A' n' c' vS' vT' := by
  obtain ⟨cs, rest, h1, h2, h3, h4, h5⟩ := h.blk
  have hi := h.hi
  have hlt : i * 16 + t < cs.length := by omega
  have k : Chg (fun b => b = g) w (w.setCell ⟨g, i * 16 + t, none⟩ u) := Chg.set (S := fun b => b = g) (p := ⟨g, i * 16 + t, none⟩) (Chg.refl _ _) rfl _
  have hs : (w.setCell ⟨g, i * 16 + t, none⟩ u).heap.size = w.heap.size := size_setCell ..
  have hlow := h.low
  refine ⟨⟨cs.set (i * 16 + t) u, rest, cells_set h1 hlt, by rw [List.length_set]; exact h2, by rw [List.length_set]; exact h3, fun j y hj hy => ?_, fun t' ht' => ?_⟩, h.low, h.hbg, h.hcap, hi, hw, ⟨b1.1, ?_⟩, b2.inChg sSm k (fun b hb e => b2.notBlk h1 (by decide) hb e) (fun b hb => (hlow b hb).2), b3.tk k (fun b hb e => b3.notBlk h1 (by decide) hb e), l1, l2⟩
  · rw [hs]
    refine sKp.mono (fun t' v ht' hv => ?_) (sKp.keep (fun p hp => k.cell hp.1 (hlow _ hp.2).2) (h4 j y hj hy))
    rw [List.getElem?_set_ne (by omega)]
    exact hv
  · rw [hc]
    by_cases e : t' = t
    · subst e
      rw [List.getElem?_set_self hlt, List.getElem?_set_self (by simpa [kpCells] using ht')]
    · rw [List.getElem?_set_ne (by omega), List.getElem?_set_ne (fun e' => e e'.symm)]
      exact h5 t' ht'
  · rw [hs]
    exact b1.2.keep sByte fun p hp => k.cell hp.1 (hlow _ hp.2).2
/-- The symbols have grown: what append leaves. -/
theorem Foc.appS (h : Foc T w base g cap xs i x A n c vS vT) (hav : ∀ b, T b → vS.ownBlock ≠ some b) (hne : ∀ b, vS.ownBlock = some b → vT.ownBlock ≠ some b) (hG : w.grownBy w' vS.ownBlock) {ys : List Sm} (hO : Own 2 (eIn T eSm) w' base 38 vS' ys) (hy : ys.length ≤ 60) :
    Foc T (w'.setCell ⟨g, i * 16 + 8, none⟩ vS') base g cap xs i { x with syms := ys } A n c vS' vT := by
  obtain ⟨cs, rest, h1, h2, h3, h4, h5⟩ := h.blk
  have k : Chg (fun b => vS.ownBlock = some b) w w' := ⟨hG.os, hG.tape, hG.output, hG.size, fun b hb hs => hG.block b hb fun e => hs e.symm⟩
  have hg : ¬ vS.ownBlock = some g := fun e => h.syms.notBlk h1 (by decide) e rfl
  have h' : Foc T w' base g cap xs i { x with syms := ys } A n c vS vT → False → True := fun _ _ => trivial
  have hi := h.hi
  have hlow := h.low
  have h1' := k.blk h1 hg
  have hlt : i * 16 + 8 < cs.length := by omega
  have k2 : Chg (fun b => b = g) w' (w'.setCell ⟨g, i * 16 + 8, none⟩ vS') := Chg.set (S := fun b => b = g) (p := ⟨g, i * 16 + 8, none⟩) (Chg.refl _ _) rfl _
  have hs : (w'.setCell ⟨g, i * 16 + 8, none⟩ vS').heap.size = w'.heap.size := size_setCell ..
  have hT := h.took.tk k fun b hb e => hne b e hb
  refine ⟨⟨cs.set (i * 16 + 8) vS', rest, cells_set h1' hlt, by rw [List.length_set]; exact h2, by rw [List.length_set]; exact h3, fun j y hj hy => ?_, fun t' ht' => ?_⟩, h.low, h.hbg, h.hcap, hi, h.wf, ⟨h.cargo.1, ?_⟩, hO.inChg sSm k2 (fun b hb e => hO.notBlk h1' (by decide) hb e) (fun b hb => (hlow b hb).2), hT.tk k2 (fun b hb e => hT.notBlk h1' (by decide) hb e), hy, h.l2⟩
  · rw [hs]
    have e1 := sKp.more (S' := fun b => b < w'.heap.size ∧ T b) (fun b hb => ⟨Nat.lt_of_lt_of_le hb.1 k.size, hb.2⟩) (sKp.keep (fun p hp => k.cell hp.1 (hav _ hp.2)) (h4 j y hj hy))
    refine sKp.mono (fun t' v ht' hv => ?_) (sKp.keep (fun p hp => k2.cell hp.1 (hlow _ hp.2).2) e1)
    rw [List.getElem?_set_ne (by omega)]
    exact hv
  · have hc : kpCells { x with syms := ys } A n c vS' vT = (kpCells x A n c vS vT).set 8 vS' := rfl
    rw [hc]
    by_cases e : t' = 8
    · subst e
      rw [List.getElem?_set_self hlt, List.getElem?_set_self (by simp [kpCells])]
    · rw [List.getElem?_set_ne (by omega), List.getElem?_set_ne (fun e' => e e'.symm)]
      exact h5 t' ht'
  · rw [hs]
    exact ((h.cargo.2.keep sByte fun p hp => k.cell hp.1 (hav _ hp.2)).more sByte (S' := fun b => b < w'.heap.size ∧ T b) fun b hb => ⟨Nat.lt_of_lt_of_le hb.1 k.size, hb.2⟩).keep sByte fun p hp => k2.cell hp.1 (hlow _ hp.2).2
/-- What was taken has grown. -/
theorem Foc.appT (h : Foc T w base g cap xs i x A n c vS vT) (hav : ∀ b, T b → vT.ownBlock ≠ some b) (hne : ∀ b, vS.ownBlock = some b → vT.ownBlock ≠ some b) (hG : w.grownBy w' vT.ownBlock) {ys : List Tk} (hO : Own 2 eTk w' base 131 vT' ys) (hy : ys.length ≤ 40) :
    Foc T (w'.setCell ⟨g, i * 16 + 13, none⟩ vT') base g cap xs i { x with took := ys } A n c vS vT' := by
  obtain ⟨cs, rest, h1, h2, h3, h4, h5⟩ := h.blk
  have k : Chg (fun b => vT.ownBlock = some b) w w' := ⟨hG.os, hG.tape, hG.output, hG.size, fun b hb hs => hG.block b hb fun e => hs e.symm⟩
  have hg : ¬ vT.ownBlock = some g := fun e => h.took.notBlk h1 (by decide) e rfl
  have hi := h.hi
  have hlow := h.low
  have h1' := k.blk h1 hg
  have hlt : i * 16 + 13 < cs.length := by omega
  have k2 : Chg (fun b => b = g) w' (w'.setCell ⟨g, i * 16 + 13, none⟩ vT') := Chg.set (S := fun b => b = g) (p := ⟨g, i * 16 + 13, none⟩) (Chg.refl _ _) rfl _
  have hs : (w'.setCell ⟨g, i * 16 + 13, none⟩ vT').heap.size = w'.heap.size := size_setCell ..
  have hS := h.syms.inChg sSm k (fun b hb e => hne b hb e) hav
  refine ⟨⟨cs.set (i * 16 + 13) vT', rest, cells_set h1' hlt, by rw [List.length_set]; exact h2, by rw [List.length_set]; exact h3, fun j y hj hy => ?_, fun t' ht' => ?_⟩, h.low, h.hbg, h.hcap, hi, h.wf, ⟨h.cargo.1, ?_⟩, hS.inChg sSm k2 (fun b hb e => hS.notBlk h1' (by decide) hb e) (fun b hb => (hlow b hb).2), hO.tk k2 (fun b hb e => hO.notBlk h1' (by decide) hb e), h.l1, hy⟩
  · rw [hs]
    have e1 := sKp.more (S' := fun b => b < w'.heap.size ∧ T b) (fun b hb => ⟨Nat.lt_of_lt_of_le hb.1 k.size, hb.2⟩) (sKp.keep (fun p hp => k.cell hp.1 (hav _ hp.2)) (h4 j y hj hy))
    refine sKp.mono (fun t' v ht' hv => ?_) (sKp.keep (fun p hp => k2.cell hp.1 (hlow _ hp.2).2) e1)
    rw [List.getElem?_set_ne (by omega)]
    exact hv
  · have hc : kpCells { x with took := ys } A n c vS vT' = (kpCells x A n c vS vT).set 13 vT' := rfl
    rw [hc]
    by_cases e : t' = 13
    · subst e
      rw [List.getElem?_set_self hlt, List.getElem?_set_self (by simp [kpCells])]
    · rw [List.getElem?_set_ne (by omega), List.getElem?_set_ne (fun e' => e e'.symm)]
      exact h5 t' ht'
  · rw [hs]
    exact ((h.cargo.2.keep sByte fun p hp => k.cell hp.1 (hav _ hp.2)).more sByte (S' := fun b => b < w'.heap.size ∧ T b) fun b hb => ⟨Nat.lt_of_lt_of_le hb.1 k.size, hb.2⟩).keep sByte fun p hp => k2.cell hp.1 (hlow _ hp.2).2
/-- Whole again. -/
theorem Foc.toOwn (h : Foc T w base g cap xs i x A n c vS vT) : Own 16 (eHi base eKp) w base 96 (.slice (some ⟨g, 0, none⟩) xs.length cap) (xs.set i x) := by
  obtain ⟨cs, rest, h1, h2, h3, h4, h5⟩ := h.blk
  have hlow := h.low
  have key := row_own (w := w) (w' := w) (ys := xs.set i x) (cap := cap) (sKp.hi base) h.hbg h1 ⟨rfl, rfl, rfl, Nat.le_refl _, fun _ _ _ => rfl⟩ (by rw [List.length_set]; exact h.hcap.1) h.hcap.2 (by rw [List.length_set]; exact h2) h3 fun j y hy => ?_
  · rw [List.length_set] at key
    exact key
  · rw [List.getElem?_set] at hy
    split at hy
    · rename_i hij
      subst hij
      split at hy
      · injection hy with hy
        subst hy
        refine kp_read h5 h.wf ⟨h.cargo.1, h.cargo.2.more sByte fun b hb => ⟨⟨hb.1, (hlow b hb.2).2⟩, (hlow b hb.2).1⟩⟩ h.syms h.took h.l1 h.l2 (fun b hb hb2 => ?_) fun b hb => ⟨⟨(h.took.ge hb).2, h.took.notBlk h1 (by decide) hb⟩, (h.took.ge hb).1⟩
        rcases hb2 with hb2 | hb2
        · exact ⟨⟨hb, h.syms.notBlk h1 (by decide) hb2⟩, (h.syms.ge hb2).1⟩
        · exact ⟨⟨hb, (hlow b hb2).2⟩, (hlow b hb2).1⟩
      · cases hy
    · rename_i hij
      exact sKp.more (fun b hb => ⟨⟨hb.1, (hlow b hb.2).2⟩, (hlow b hb.2).1⟩) (h4 j y (fun e => hij e.symm) hy)
end
/-- One of them taken in hand. -/
theorem AllM.foc {w : World} {base : Nat} {v : Value} {xs : List Kp} {lo : Nat → Nat} {i : Nat} {x : Kp} (h : AllM w base v xs lo) (hx : xs[i]? = some x) :
    ∃ g cap A n c vS vT T, v = .slice (some ⟨g, 0, none⟩) xs.length cap ∧ Foc T w base g cap xs i x A n c vS vT ∧ (∀ b, T b → vS.ownBlock ≠ some b ∧ vT.ownBlock ≠ some b) ∧ (∀ b, vS.ownBlock = some b → vT.ownBlock ≠ some b) := by
  obtain ⟨cs, ho, hr⟩ := h.own
  have hi := (List.getElem?_eq_some_iff.1 hx).1
  have hlen := ho.1
  rcases ho.2 with ⟨rfl, h0⟩ | ⟨g, cap, cur, rfl, hbg, hg, hnc, hcm, hcs, htake⟩
  · omega
  obtain ⟨A, n, c, vS, vT, h1, h2, h3, h4, h5, h6, h7, h8, h9⟩ := hr i x hx
  have e1 := h.mono (i + 1) xs.length hi
  have e2 := h.mono 0 i (Nat.zero_le _)
  have e3 := h.bot
  have e4 := h.top
  have e5 := h.far g rfl
  have hgE : cur = (cs ++ cur.toList.drop (xs.length * 16)).toArray := by rw [← htake, List.take_append_drop]
  refine ⟨g, cap, A, n, c, vS, vT, fun b => base ≤ b ∧ b ≠ g ∧ vS.ownBlock ≠ some b ∧ vT.ownBlock ≠ some b, rfl, ⟨⟨cs, cur.toList.drop (xs.length * 16), by rw [← hgE]; exact hg, hlen, ?_, fun j y hj hy => (hr j y hy).read fun b q1 q2 => ?_, h1⟩, fun b hb => ⟨hb.1, hb.2.1⟩, hbg, ⟨hnc, hcm⟩, hi, h2, ⟨h3.1, h3.2.more sByte fun b hb => ⟨by omega, by omega, by omega, hb.2.2⟩⟩, ?_, h5.lower (by omega), h8, h9⟩, fun b hb => hb.2.2, fun b hb => (h6 b hb).2⟩
  · have e2 : cur.toList.length = cap * 16 := by rw [Array.length_toList]; exact hcs
    rw [hlen, List.length_drop, e2]; omega
  · have hj' := (List.getElem?_eq_some_iff.1 hy).1
    have f1 := h.mono (j + 1) xs.length hj'
    have f2 := h.mono 0 j (Nat.zero_le _)
    have ne : ∀ a, lo i ≤ a → a < lo (i + 1) → a ≠ b := fun a r1 r2 e => by
      subst e
      rcases Nat.lt_or_ge i j with hlt | hge
      · have := h.mono (i + 1) j hlt; omega
      · have := h.mono (j + 1) i (by omega); omega
    exact ⟨by omega, by omega, by omega, fun e => ne b (h4.ge e).1 (h6 b e).1 rfl, fun e => ne b (h5.ge e).1 (h7 b e) rfl⟩
  · have key : Own 2 (eIn (fun b => base ≤ b ∧ b ≠ g ∧ vS.ownBlock ≠ some b ∧ vT.ownBlock ≠ some b) eSm) w (lo i) 38 vS x.syms := h4.chgG (S := fun _ => False) (Chg.refl _ _) (fun _ _ e => e) fun f y hy => by
      unfold eIn at hy ⊢
      refine sSm.more (fun b hb => ?_) hy
      obtain ⟨r0, r1, r2, r3⟩ := hb
      exact ⟨r0, by omega, by omega, r3⟩
    exact key.lower (by omega)
end Go.Proofs.YtmiaplgfbphfmaaGreatDoor
namespace Go.Proofs.YtmiaplgfbphfmaaGreatDoor
open Go.RowKit
attribute [local irreducible] wpList

/-- Values set one behind the other. -/
def setL : List Value → Nat → List Value → List Value
  | cs, _, [] => cs
  | cs, o, v :: vs => setL (cs.set o v) (o + 1) vs
def setsW : World → Nat → Nat → List Value → World
  | w, _, _, [] => w
  | w, g, o, v :: vs => setsW (w.setCell ⟨g, o, none⟩ v) g (o + 1) vs
theorem length_setL : ∀ (vs cs : List Value) (o : Nat), (setL cs o vs).length = cs.length
  | [], _, _ => rfl
  | v :: vs, cs, o => by rw [setL, length_setL vs, List.length_set]
theorem setL_out : ∀ (vs cs : List Value) (o i : Nat), i < o ∨ o + vs.length ≤ i → (setL cs o vs)[i]? = cs[i]?
  | [], _, _, _, _ => rfl
  | v :: vs, cs, o, i, h => by
    rw [List.length_cons] at h
    rw [setL, setL_out vs _ _ _ (by omega), List.getElem?_set_ne (by omega)]
theorem setL_in : ∀ (vs cs : List Value) (o t : Nat), o + vs.length ≤ cs.length → t < vs.length → (setL cs o vs)[o + t]? = vs[t]?
  | [], _, _, _, _, h => absurd h (by simp)
  | v :: vs, cs, o, t, h, ht => by
    rw [List.length_cons] at h ht
    rw [setL]
    cases t with
    | zero => rw [setL_out vs _ _ _ (by omega), Nat.add_zero, List.getElem?_set_self (by omega)]; rfl
    | succ t =>
      have := setL_in vs (cs.set o v) (o + 1) t (by rw [List.length_set]; omega) (by omega)
      rw [show o + (t + 1) = o + 1 + t by omega, this]; rfl
theorem setsW_heap {g : Nat} {rest : List Value} {t : TypeId} : ∀ (vs : List Value) (w : World) (cs : List Value) (o : Nat), w.heap[g]? = some (.cells (cs ++ rest).toArray t (0, 0)) → o + vs.length ≤ cs.length → (setsW w g o vs).heap[g]? = some (.cells (setL cs o vs ++ rest).toArray t (0, 0))
  | [], _, _, _, h, _ => h
  | v :: vs, w, cs, o, h, hl => by
    rw [List.length_cons] at hl
    rw [setsW, setL]
    exact setsW_heap vs _ _ _ (cells_set h (by omega)) (by rw [List.length_set]; omega)
theorem setsW_chg {g : Nat} {W : World} : ∀ (vs : List Value) (w : World) (o : Nat), Chg (fun b => b = g) W w → Chg (fun b => b = g) W (setsW w g o vs)
  | [], _, _, h => h
  | v :: vs, w, o, h => by rw [setsW]; exact setsW_chg vs _ _ (Chg.set (S := fun b => b = g) (p := ⟨g, o, none⟩) h rfl _)
theorem setsW_size {g : Nat} : ∀ (vs : List Value) (w : World) (o : Nat), (setsW w g o vs).heap.size = w.heap.size
  | [], _, _ => rfl
  | v :: vs, w, o => by rw [setsW, setsW_size vs, size_setCell]
theorem setsW_eq : ∀ (vs : List Value) (w : World) (g o : Nat), setsW w g o vs = w.setCells g o vs
  | [], _, _, _ => rfl
  | v :: vs, w, g, o => by rw [setsW, setsW_eq vs]; rfl
theorem kp_one {x : Kp} {A A2 A3 : Option Addr} {n c n2 c2 n3 c3 : Nat} : (kpCells x A n c (.slice A2 n2 c2) (.slice A3 n3 c3)).toArray.all (·.oneCell') = true :=
  all_oneCell_toArray (by simp [kpCells, Value.oneCell'])

/-- Where the blocks of each bundle begin. -/
structure LoOk (lo : Nat → Nat) (k g base size : Nat) : Prop where
  mono : ∀ i j, i ≤ j → lo i ≤ lo j
  bot : base ≤ lo 0
  far : g < lo 0
  top : lo k ≤ size
theorem LoOk.next {lo : Nat → Nat} {k g base size size' : Nat} (h : LoOk lo k g base size) (hs : size ≤ size') : LoOk (fun i => if i ≤ k then lo i else size') (k + 1) g base size' := by
  obtain ⟨h1, h2, h3, h4⟩ := h
  refine ⟨fun i j hij => ?_, ?_, ?_, ?_⟩
  · try simp only []
    split
    · split
      · exact h1 i j hij
      · have := h1 i k (by assumption); omega
    · rw [if_neg (by omega)]; exact Nat.le_refl _
  · (try simp only []); rw [if_pos (Nat.zero_le _)]; exact h2
  · (try simp only []); rw [if_pos (Nat.zero_le _)]; exact h3
  · (try simp only []); rw [if_neg (by omega)]; exact Nat.le_refl _
theorem KpM.congr {w : World} {l u : Nat} {f f' : Nat → Option Value} {x : Kp} (h : KpM w l u f x) (hf : ∀ t, t < 16 → f' t = f t) : KpM w l u f' x := by
  obtain ⟨A, n, c, vS, vT, h1, h2⟩ := h
  exact ⟨A, n, c, vS, vT, fun t ht => (hf t ht).trans (h1 t ht), h2⟩
theorem KpM.wide {w : World} {l u l' u' : Nat} {f : Nat → Option Value} {x : Kp} (h : KpM w l u f x) (hl : l' ≤ l) (hu : u ≤ u') : KpM w l' u' f x := by
  obtain ⟨A, n, c, vS, vT, h1, h2, h3, h4, h5, h6, h7, h8⟩ := h
  have key : Own 2 (eIn (fun b => l' ≤ b ∧ b < u' ∧ vS.ownBlock ≠ some b ∧ vT.ownBlock ≠ some b) eSm) w l 38 vS x.syms := h4.chgG (S := fun _ => False) (Chg.refl _ _) (fun _ _ e => e) fun f y hy => by
    unfold eIn at hy ⊢
    refine sSm.more (fun b hb => ?_) hy
    obtain ⟨r0, r1, r2, r3⟩ := hb
    exact ⟨r0, by omega, by omega, r3⟩
  exact ⟨A, n, c, vS, vT, h1, h2, ⟨h3.1, h3.2.more sByte fun b hb => ⟨by omega, by omega, hb.2.2⟩⟩, key.lower hl, h5.lower hl, fun b hb => ⟨by have := (h6 b hb).1; omega, (h6 b hb).2⟩, fun b hb => by have := h7 b hb; omega, h8⟩
theorem kcopy_step {W2 wr wi : World} {base g k n : Nat} {lo : Nat → Nat} {cs' rest cs : List Value} {xs : List Kp} {x : Kp} {vs : List Value} (hk : k < n) (hn : xs.length = n) (hx : xs[k]? = some x) (hvs : vs.length = 16)
    (HG : wr.heap[g]? = some (.cells (cs' ++ rest).toArray 96 (0, 0))) (HL : cs'.length = n * 16) (HO : ∀ j, k * 16 ≤ j → cs'[j]? = cs[j]?) (HLO : LoOk lo k g base wr.heap.size)
    (HM : ∀ i y, i < k → xs[i]? = some y → KpM wr (lo i) (lo (i + 1)) (fun j => cs'[i * 16 + j]?) y) (HC : Chg (fun b => b = g) W2 wr) (HW : Fr wr wi) (HX : KpM wi wr.heap.size wi.heap.size (fun t => vs[t]?) x) :
    ∃ lo' cs2, (setsW wi g (k * 16) vs).heap[g]? = some (.cells (cs2 ++ rest).toArray 96 (0, 0)) ∧ cs2.length = n * 16 ∧ (∀ j, (k + 1) * 16 ≤ j → cs2[j]? = cs[j]?) ∧ LoOk lo' (k + 1) g base (setsW wi g (k * 16) vs).heap.size ∧
      (∀ i y, i < k + 1 → xs[i]? = some y → KpM (setsW wi g (k * 16) vs) (lo' i) (lo' (i + 1)) (fun j => cs2[i * 16 + j]?) y) ∧ Chg (fun b => b = g) W2 (setsW wi g (k * 16) vs) := by
  have hs := setsW_size (g := g) vs wi (k * 16)
  have h1 := HW.size
  have kk := setsW_chg (g := g) (W := wi) vs wi (k * 16) (Chg.refl _ _)
  have hgi := blk_go HG HW
  refine ⟨fun i => if i ≤ k then lo i else wi.heap.size, setL cs' (k * 16) vs, setsW_heap vs wi cs' (k * 16) hgi (by omega), by rw [length_setL]; exact HL, fun j hj => ?_, by rw [hs]; exact HLO.next h1, fun i y hi hy => ?_, (HC.trans (Fr.chg HW)).trans kk⟩
  · rw [setL_out _ _ _ _ (by omega)]; exact HO j (by omega)
  · by_cases hik : i = k
    · subst hik
      obtain rfl : x = y := by have := hx.symm.trans hy; injection this
      try simp only []
      rw [if_pos (Nat.le_refl _), if_neg (by omega)]
      have e1 := HLO.top
      have e2 := HLO.mono 0 i (Nat.zero_le _)
      have e3 := HLO.far
      refine ((HX.wide e1 (Nat.le_refl _)).congr fun t ht => ?_).chg kk (Nat.le_refl _) fun b q1 q2 => by omega
      exact setL_in vs cs' (i * 16) t (by omega) (by omega)
    · try simp only []
      rw [if_pos (by omega), if_pos (by omega)]
      have e1 := HLO.top
      have e2 := HLO.mono 0 i (Nat.zero_le _)
      have e3 := HLO.far
      have e4 := HLO.mono (i + 1) k (by omega)
      have h2 := ((HM i y (by omega) hy).chg (S := fun _ => False) (Fr.chg HW) (by omega) fun _ _ _ e => e).chg kk (by omega) fun b q1 q2 => by omega
      refine h2.congr fun t ht => ?_
      rw [setL_out _ _ _ _ (by omega)]
theorem Own.lowR {α : Type} {size N : Nat} {r : ERd α} {w : World} {base : Nat} {e : TypeId} {v : Value} {xs : List α} (s : Stable size r) (h : Own size (eLow N r) w base e v xs) : OwnR size r (fun _ b => b < N) w base e v xs := by
  obtain ⟨cs, ho, hr⟩ := h
  exact ⟨cs, ho, fun i x hx => s.more (fun b hb => ⟨hb.2, hb.1⟩) (hr i x hx)⟩
/-- A bundle of which all was cloned. -/
theorem kpm_new {wi : World} {l m : Nat} {x : Kp} {AC A2 A3 : Option Addr} {cC c2 c3 : Nat} (hw : x.wf) (l1 : x.syms.length ≤ 60) (l2 : x.took.length ≤ 40) (hl : x.cargo.length ≤ lim)
    (hC : Own 1 eByte wi l 5 (.slice AC x.cargo.length cC) x.cargo) (hS : OwnR 2 eSm (fun _ b => m ≤ b) wi l 38 (.slice A2 x.syms.length c2) x.syms) (hT : Own 2 eTk wi l 131 (.slice A3 x.took.length c3) x.took)
    (hm : l ≤ m) (d1 : ∀ b, (Value.slice AC x.cargo.length cC).ownBlock = some b → (Value.slice A2 x.syms.length c2).ownBlock ≠ some b ∧ (Value.slice A3 x.took.length c3).ownBlock ≠ some b) (d2 : ∀ b, (Value.slice A2 x.syms.length c2).ownBlock = some b → (Value.slice A3 x.took.length c3).ownBlock ≠ some b)
    (d3 : ∀ b, (Value.slice A3 x.took.length c3).ownBlock = some b → b < m) :
    KpM wi l wi.heap.size (fun t => (kpCells x AC x.cargo.length cC (.slice A2 x.syms.length c2) (.slice A3 x.took.length c3))[t]?) x := by
  have hC2 : Own 1 (eIn (fun _ => False) eByte) wi l 5 (.slice AC x.cargo.length cC) x.cargo := hC.chgG (S := fun _ => False) (Chg.refl _ _) (fun _ _ e => e) fun f y hy => hy
  obtain ⟨A', c', e1, hb, hs⟩ := hC2.slIn sByte
  injection e1 with e1 _ e2
  subst e1 e2
  obtain ⟨cs, ho, hr⟩ := hS
  refine ⟨AC, _, cC, _, _, fun t ht => rfl, hw, ⟨⟨by rw [Nat.mul_one]; exact hl, hb⟩, hs.more sByte fun b hb => ?_⟩, ⟨cs, ho, fun i y hy => ?_⟩, hT, fun b hb => ⟨(ho.lt b hb).2, d2 b hb⟩, fun b hb => (hT.ge hb).2, l1, l2⟩
  · rcases hb.2 with h | h
    · exact ⟨(hC.ge h).1, hb.1, d1 b h⟩
    · exact h.elim
  · unfold eIn
    refine sSm.more (fun b hb => ⟨⟨hb.2.1, hb.2.2⟩, Nat.le_trans hm hb.1, hb.2.1, hb.2.2, fun e => ?_⟩) (hr i y hy)
    have := d3 b e
    have := hb.1
    omega
end Go.Proofs.YtmiaplgfbphfmaaGreatDoor
