/- The reference's CheckRec. No condition. -/
import Derived.Test.YtbincgbgeccccaaGreatDoorRSymb
import Derived.Test.YtbincgbgeccccaaGreatDoorNCheck
import Derived.Test.YtbincgbgeccccaaGreatDoorEqHd
import Derived.Test.YtbincgbgeccccaaGreatDoorStrOne
import Derived.Test.YtbincgbgeccccaaGreatDoorCallV
import Derived.Test.YtbincgbgeccccaaGreatDoorSeg
import Derived.Test.YtbincgbgeccccaaGreatDoorUMap
import Derived.BigGuardPart
import Derived.Deep.DeepCutAuto
import Derived.Deep.Cut
set_option linter.unusedSimpArgs false
set_option linter.unusedVariables false
namespace Go.Proofs.YtbincgbgeccccaaGreatDoor
open Go.RowKit Go.Maps
attribute [local irreducible] wpList

theorem refHas_any (w : World) (s : Nat) (us : List UInt8) (c : UInt8) (hc : w.cell? ⟨s, 0, none⟩ = some (sV us)) :
    Calls Tryz.prog 60 #[.string ⟨#[c]⟩, .pointer (some ⟨s, 0, none⟩)] w fun e w' => e = .returned (.bool (decide (0 ≤ Lib.indexByte us c))) ∧ w' = w := by
  go_enter Tryz.func60, Tryz.ntmps60
  go_wp2_with (go_at_call 41; (with_reducible refine (Tryz.strings_Contains_one _ _ _).mono ?_); rintro e w1 ⟨rfl, rfl⟩)
  go_ret
  exact ⟨rfl, rfl⟩
theorem refNone_any (w : World) (f s : Nat) (us : List UInt8) (c : UInt8) (b : Bool) (hc : w.cell? ⟨s, 0, none⟩ = some (sV us)) (hf : w.cell? ⟨f, 0, none⟩ = some (.func (.func 60) #[] #[.pointer (some ⟨s, 0, none⟩)])) :
    Calls Tryz.prog 61 #[.string ⟨#[c]⟩, .bool b, .pointer (some ⟨f, 0, none⟩)] w fun e w' => e = .returned (.bool (decide (0 ≤ Lib.indexByte us c) || b)) ∧ w' = w := by
  have HH := Lib.hid (refHas_any w s us c hc)
  obtain ⟨q, hq⟩ : ∃ q, q = decide (0 ≤ Lib.indexByte us c) := ⟨_, rfl⟩
  rw [← hq] at HH
  rw [← hq]
  clear hq
  go_enter Tryz.func61, Tryz.ntmps61
  go_wp2_with (refine (HH.out).mono ?_; rintro e w1 ⟨rfl, rfl⟩)
  all_goals go_ret
  all_goals (refine ⟨?_, rfl⟩; cases q <;> cases b <;> simp_all)
def useR : Int → Option (List UInt8) := fun k => if k = 8 then some [78] else if k = 7 then some [72] else if k = 6 then some [80,78,84,72] else if k = 5 then some [84,72] else if k = 4 then some [80,78,84,72] else if k = 3 then some [72,67] else if k = 2 then some [72,83] else if k = 1 then some [78,72,67] else none
/-- The table laid. -/
theorem table_laid (W : World) : ∃ w1 w2 w3 w4 w5 w6 w7 w8 : World, (Instr.mapUpdate 101 (.map (some W.heap.size)) (.int .i64 1) (.string ⟨#[78, 72, 67]⟩)).run Tryz.prog (W.alloc (.map #[] 0)) = .ok () w1 ∧ (Instr.mapUpdate 101 (.map (some W.heap.size)) (.int .i64 2) (.string ⟨#[72, 83]⟩)).run Tryz.prog w1 = .ok () w2 ∧ (Instr.mapUpdate 101 (.map (some W.heap.size)) (.int .i64 3) (.string ⟨#[72, 67]⟩)).run Tryz.prog w2 = .ok () w3 ∧ (Instr.mapUpdate 101 (.map (some W.heap.size)) (.int .i64 4) (.string ⟨#[80, 78, 84, 72]⟩)).run Tryz.prog w3 = .ok () w4 ∧ (Instr.mapUpdate 101 (.map (some W.heap.size)) (.int .i64 5) (.string ⟨#[84, 72]⟩)).run Tryz.prog w4 = .ok () w5 ∧ (Instr.mapUpdate 101 (.map (some W.heap.size)) (.int .i64 6) (.string ⟨#[80, 78, 84, 72]⟩)).run Tryz.prog w5 = .ok () w6 ∧ (Instr.mapUpdate 101 (.map (some W.heap.size)) (.int .i64 7) (.string ⟨#[72]⟩)).run Tryz.prog w6 = .ok () w7 ∧ (Instr.mapUpdate 101 (.map (some W.heap.size)) (.int .i64 8) (.string ⟨#[78]⟩)).run Tryz.prog w7 = .ok () w8 ∧ UMap w8 W.heap.size 8 useR ∧ Fr W w8 := by
  have M0 := umap_made W
  have G0 : Fr W (W.alloc (.map #[] 0)) := frAlloc _ _
  obtain ⟨w1, r1, M1, g1⟩ := M0.put 1 (by decide) (by decide) [78, 72, 67] (by decide)
  have G1 : Fr W w1 := G0.grown g1 G0.size fun k hk => by injection hk with hk; omega
  obtain ⟨w2, r2, M2, g2⟩ := M1.put 2 (by decide) (by decide) [72, 83] (by decide)
  have G2 : Fr W w2 := G1.grown g2 G1.size fun k hk => by injection hk with hk; omega
  obtain ⟨w3, r3, M3, g3⟩ := M2.put 3 (by decide) (by decide) [72, 67] (by decide)
  have G3 : Fr W w3 := G2.grown g3 G2.size fun k hk => by injection hk with hk; omega
  obtain ⟨w4, r4, M4, g4⟩ := M3.put 4 (by decide) (by decide) [80, 78, 84, 72] (by decide)
  have G4 : Fr W w4 := G3.grown g4 G3.size fun k hk => by injection hk with hk; omega
  obtain ⟨w5, r5, M5, g5⟩ := M4.put 5 (by decide) (by decide) [84, 72] (by decide)
  have G5 : Fr W w5 := G4.grown g5 G4.size fun k hk => by injection hk with hk; omega
  obtain ⟨w6, r6, M6, g6⟩ := M5.put 6 (by decide) (by decide) [80, 78, 84, 72] (by decide)
  have G6 : Fr W w6 := G5.grown g6 G5.size fun k hk => by injection hk with hk; omega
  obtain ⟨w7, r7, M7, g7⟩ := M6.put 7 (by decide) (by decide) [72] (by decide)
  have G7 : Fr W w7 := G6.grown g7 G6.size fun k hk => by injection hk with hk; omega
  obtain ⟨w8, r8, M8, g8⟩ := M7.put 8 (by decide) (by decide) [78] (by decide)
  have G8 : Fr W w8 := G7.grown g8 G7.size fun k hk => by injection hk with hk; omega
  exact ⟨w1, w2, w3, w4, w5, w6, w7, w8, r1, r2, r3, r4, r5, r6, r7, r8, M8, G8⟩
/-- At a call through a slot, with one closed string and one more. -/
theorem at_callv2 {P : Program} {w : World} {ops : Array Oper} {rest : List Oper} {o : Oper} {a : Act} {Q : Exit → Act → World → Prop} (t u : Tmp) (c : UInt8) (ats : Array TypeId)
    (ho : o.op = .call { callee := .value (.tmp t), args := #[.const (.string ⟨#[c]⟩), .tmp u], argTypes := ats }) (h : wpList P ops Q (o :: rest) a w) : wpList P ops Q (o :: rest) a w := h
def hasR (us : List UInt8) (c : UInt8) : Bool := decide (0 ≤ Lib.indexByte us c)
theorem useR_some {k : Int} (h : true = (useR k).isSome) : 1 ≤ k ∧ k ≤ 8 := by
  unfold useR at h
  repeat' split at h
  all_goals first | omega | (simp at h; done)
theorem useR_none {k : Int} (h : false = (useR k).isSome) : k < 1 ∨ 8 < k := by
  by_cases hk : 1 ≤ k ∧ k ≤ 8
  · rcases kinds8 hk with rfl | rfl | rfl | rfl | rfl | rfl | rfl | rfl <;> simp [useR] at h
  · omega
theorem ur_p {k : Int} (h : 1 ≤ k ∧ k ≤ 8) : hasR ((useR k).getD []) 80 = usP k := by
  rcases kinds8 h with rfl | rfl | rfl | rfl | rfl | rfl | rfl | rfl <;> decide
theorem ur_n {k : Int} (h : 1 ≤ k ∧ k ≤ 8) : hasR ((useR k).getD []) 78 = usN k := by
  rcases kinds8 h with rfl | rfl | rfl | rfl | rfl | rfl | rfl | rfl <;> decide
theorem ur_t {k : Int} (h : 1 ≤ k ∧ k ≤ 8) : hasR ((useR k).getD []) 84 = usT k := by
  rcases kinds8 h with rfl | rfl | rfl | rfl | rfl | rfl | rfl | rfl <;> decide
theorem ur_h {k : Int} (h : 1 ≤ k ∧ k ≤ 8) : hasR ((useR k).getD []) 72 = usH k := by
  rcases kinds8 h with rfl | rfl | rfl | rfl | rfl | rfl | rfl | rfl <;> decide
theorem ur_s {k : Int} (h : 1 ≤ k ∧ k ≤ 8) : hasR ((useR k).getD []) 83 = usS k := by
  rcases kinds8 h with rfl | rfl | rfl | rfl | rfl | rfl | rfl | rfl <;> decide
theorem ur_c {k : Int} (h : 1 ≤ k ∧ k ≤ 8) : hasR ((useR k).getD []) 67 = usC k := by
  rcases kinds8 h with rfl | rfl | rfl | rfl | rfl | rfl | rfl | rfl <;> decide
theorem us_sc {k : Int} (h : 1 ≤ k ∧ k ≤ 8) : usS k = true → usC k = false := by
  rcases kinds8 h with rfl | rfl | rfl | rfl | rfl | rfl | rfl | rfl <;> decide
theorem ifc {p q : Prop} [Decidable p] [Decidable q] {a b c d : Int} (h : p ↔ q) (h1 : a = c) (h2 : b = d) : (if p then a else b) = if q then c else d := by
  subst h1 h2
  by_cases hp : p
  · rw [if_pos hp, if_pos (h.1 hp)]
  · rw [if_neg hp, if_neg fun e => hp (h.2 e)]
theorem chk_join {rc hd cc e1 e2 : Int} {qh qs qc b8 y1 z1 z2 y2 : Bool} (h1 : rc = if qh = true ∧ hd ≠ 0 then hd else if qs = true then cc else if qc = true ∧ b8 = true then 4 else 0) (h2 : e1 = if qh = true then hd else 0) (h3 : e2 = if y1 = true then cc else e1) (h4 : y1 = (z1 && qs)) (h5 : z1 = true ↔ e1 = 0) (h6 : z2 = true ↔ e2 = 0) (h7 : qs = true → qc = false) (hy : y2 = (z2 && qc && b8)) : rc = if y2 = true then 4 else e2 := by
  have e5 : z1 = decide (e1 = 0) := by
    by_cases h : e1 = 0
    · rw [decide_eq_true h]; exact h5.2 h
    · rw [decide_eq_false h]; cases z1 with
      | false => rfl
      | true => exact absurd (h5.1 rfl) h
  have e6 : z2 = decide (e2 = 0) := by
    by_cases h : e2 = 0
    · rw [decide_eq_true h]; exact h6.2 h
    · rw [decide_eq_false h]; cases z2 with
      | false => rfl
      | true => exact absurd (h6.1 rfl) h
  clear h5 h6
  rw [hy, h1, e6, h3, h4, e5, h2]
  clear hy h1 e6 h3 h4 e5 h2
  by_cases h0 : hd = 0
  · subst h0
    by_cases hc : cc = 0
    · subst hc
      cases qh <;> cases qs <;> cases qc <;> cases b8 <;> simp at *
    · cases qh <;> cases qs <;> cases qc <;> cases b8 <;> simp [hc] at *
  · by_cases hc : cc = 0
    · subst hc
      cases qh <;> cases qs <;> cases qc <;> cases b8 <;> simp [h0] at *
    · cases qh <;> cases qs <;> cases qc <;> cases b8 <;> simp [h0, hc] at *
/-- recCheck by the reference's tests. -/
theorem chk_split (r : Rc) (n n2 : Nat) (us : List UInt8) (hus : us = (useR r.kind).getD []) (hok : true = (useR r.kind).isSome) (hl : r.s.data.length = n) (hl2 : r.cargo.length = n2) :
    recCheck r = (if (hasR us 80 || (r.place == 0)) = false ∨ (hasR us 78 || (r.n == 0)) = false ∨ (hasR us 84 || (r.try_ == 0)) = false ∨ (hasR us 72 || decide (r.h = Hd.zero)) = false ∨ (hasR us 83 || ((r.s.id == 0) && ((n : Int) == 0))) = false ∨ (hasR us 67 || ((n2 : Int) == 0)) = false then 4
      else if inR r.place 0 3 = false ∨ inR r.try_ 0 9999 = false ∨ inR r.n 0 1000000 = false then 3
      else if hasR us 72 = true ∧ hdCheck r.h ≠ 0 then hdCheck r.h
      else if hasR us 83 = true then codeCheck r.h.bytes r.h.block r.s.id n
      else if hasR us 67 = true ∧ ((n2 : Int) != r.h.bytes) = true then 4 else 0) ∧ (hasR us 83 = true → hasR us 67 = false) := by
  have hk := useR_some hok
  subst hus
  rw [ur_p hk, ur_n hk, ur_t hk, ur_h hk, ur_s hk, ur_c hk, rec_split r n n2 hk hl hl2]
  refine ⟨ifc ?_ rfl (ifc ?_ rfl (ifc Iff.rfl rfl (ifc Iff.rfl rfl (ifc ?_ rfl rfl)))), us_sc hk⟩
  · have h1 : 0 < n ↔ ¬ n = 0 := Nat.pos_iff_ne_zero
    have h2 : 0 < n2 ↔ ¬ n2 = 0 := Nat.pos_iff_ne_zero
    simp [Bool.or_eq_false_iff, h1, h2, Decidable.imp_iff_not_or]
  · unfold inR; simp; omega
  · simp
set_option maxRecDepth 100000 in
set_option maxHeartbeats 4000000 in
theorem refCheck_any (w : World) (r : Rc) (A : Option Addr) (n c : Nat) (A2 : Option Addr) (n2 c2 : Nat) (hw : r.wf) (hl : r.s.data.length = n) (hl2 : r.cargo.length = n2) :
    Calls Tryz.prog 37 #[.agg #[.int .i64 r.kind, .int .i64 r.place, .int .i64 r.n, .int .i64 r.try_, .int .i64 r.h.frm, .int .i64 r.h.seq, .int .i64 r.h.to, .int .i64 r.h.till, .int .i64 r.h.bytes, .int .i64 r.h.block, .int .i64 r.s.id, .slice A n c, .slice A2 n2 c2]] w fun e w' => e = .returned (.int .i64 (recCheck r)) ∧ Fr w w' := by
  obtain ⟨W1, hW1⟩ : ∃ W1, W1 = w.alloc (.cells #[.int .i64 r.kind, .int .i64 r.place, .int .i64 r.n, .int .i64 r.try_, .int .i64 r.h.frm, .int .i64 r.h.seq, .int .i64 r.h.to, .int .i64 r.h.till, .int .i64 r.h.bytes, .int .i64 r.h.block, .int .i64 r.s.id, .slice A n c, .slice A2 n2 c2] 33) := ⟨_, rfl⟩
  obtain ⟨p, hp⟩ : ∃ p, p = w.heap.size := ⟨_, rfl⟩
  have hp1 : W1.heap[p]? = some (.cells #[.int .i64 r.kind, .int .i64 r.place, .int .i64 r.n, .int .i64 r.try_, .int .i64 r.h.frm, .int .i64 r.h.seq, .int .i64 r.h.to, .int .i64 r.h.till, .int .i64 r.h.bytes, .int .i64 r.h.block, .int .i64 r.s.id, .slice A n c, .slice A2 n2 c2] 33 (0, 0)) := by rw [hW1]; exact heap_new hp
  have HF1 : Hid (Fr w W1) := by rw [hW1]; exact frAlloc _ _
  obtain ⟨w1, w2, w3, w4, w5, w6, w7, w8, r1, r2, r3, r4, r5, r6, r7, r8, HM, HF8⟩ := table_laid W1
  have hlk := HM.look r.kind hw.1
  have hmm := @run_makeMap Tryz.prog
  have hp8 := blk_go hp1 HF8
  have HP8 := Lib.hid hp8
  have HF18 := Lib.hid HF8
  (obtain ⟨bp0, bp1, bp2, bp3, bp4, bp5, bp6, bp7, bp8, bp9, bp10, bp11, bp12⟩ := box13_ hp8)
  obtain ⟨us, hus⟩ : ∃ us, us = (useR r.kind).getD [] := ⟨_, rfl⟩
  obtain ⟨ok, hok⟩ : ∃ ok, ok = (useR r.kind).isSome := ⟨_, rfl⟩
  rw [← hus, ← hok] at hlk
  have HUS := Lib.hid hus
  have HOK := Lib.hid hok
  have HW := Lib.hid hw
  clear hp8 hp1 HM HF8 hus hok hw
  go_enter Tryz.func37, Tryz.ntmps37
  go_upto_region 1 with fail
  rw [← hW1, ← hp]
  clear hW1 hp
  go_upto_region 2 with fail
  obtain ⟨W9, hW9⟩ : ∃ W, W = w8.alloc (.cells #[sV us] 9) := ⟨_, rfl⟩
  obtain ⟨sb, hsb⟩ : ∃ b, b = w8.heap.size := ⟨_, rfl⟩
  rw [← hW9, ← hsb]
  have hs9 : W9.heap[sb]? = some (.cells #[sV us] 9 (0, 0)) := by rw [hW9]; exact heap_new hsb
  have hf9 : Fr w8 W9 := by rw [hW9]; exact frAlloc _ _
  have HP9 := Lib.hid (blk_go HP8.out hf9)
  have HF9 : Hid (Fr w W9) := (HF1.out.trans HF18.out).trans hf9
  have HS9 := Lib.hid hs9
  clear hW9 hsb hs9 hf9 bp0 bp1 bp2 bp3 bp4 bp5 bp6 bp7 bp8 bp9 bp10 bp11 bp12 hlk hmm r1 r2 r3 r4 r5 r6 r7 r8 HP8 HF18 HF1
  have hst := fun (W : World) (a : Addr) => run_store Tryz.prog W a (.func (.func 60) #[] #[.pointer (some ⟨sb, 0, none⟩)]) .plain rfl
  go_upto_region 3 with fail
  obtain ⟨W10, hW10⟩ : ∃ W, W = W9.alloc (.cells #[.func (.func 60) #[] #[.pointer (some ⟨sb, 0, none⟩)]] 78) := ⟨_, rfl⟩
  obtain ⟨fb, hfb⟩ : ∃ b, b = W9.heap.size := ⟨_, rfl⟩
  rw [← hW10, ← hfb]
  have hf10 : Fr W9 W10 := by rw [hW10]; exact frAlloc _ _
  have hcf0 : W10.cell? ⟨fb, 0, none⟩ = some (.func (.func 60) #[] #[.pointer (some ⟨sb, 0, none⟩)]) := by rw [hW10]; exact cell_of_heap (heap_new hfb)
  have hcs0 : W10.cell? ⟨sb, 0, none⟩ = some (sV us) := cell_of_heap (i := 0) (blk_go HS9.out hf10)
  have hp10 := blk_go HP9.out hf10
  have HF10 : Hid (Fr w W10) := HF9.out.trans hf10
  have HN : Hid (∀ (c : UInt8) (b : Bool), Calls Tryz.prog 61 #[.string ⟨#[c]⟩, .bool b, .pointer (some ⟨fb, 0, none⟩)] W10 fun e w' => e = .returned (.bool (decide (0 ≤ Lib.indexByte us c) || b)) ∧ w' = W10) := fun c b => refNone_any W10 fb sb us c b hcs0 hcf0
  have HH : Hid (∀ (c : UInt8), Calls Tryz.prog 60 #[.string ⟨#[c]⟩, .pointer (some ⟨sb, 0, none⟩)] W10 fun e w' => e = .returned (.bool (decide (0 ≤ Lib.indexByte us c))) ∧ w' = W10) := fun c => refHas_any W10 sb us c hcs0
  have HCF := Lib.hid hcf0
  have HCS := Lib.hid hcs0
  have HP10 := Lib.hid hp10
  (obtain ⟨bp0, bp1, bp2, bp3, bp4, bp5, bp6, bp7, bp8, bp9, bp10, bp11, bp12⟩ := box13_ hp10)
  clear hW10 hfb hf10 hcs0 hcf0 hp10 hst HP9 HF9 HS9
  have hcf : ∀ (args : Array Value) (W : World), (callFunc 61 args).run Tryz.prog W = .ok (.enter 61 args) W := entersW Tryz.func61 (by kernel_rfl) (by kernel_rfl)
  have hcf1 : ∀ (args : Array Value) (W : World), (callFunc 60 args).run Tryz.prog W = .ok (.enter 60 args) W := entersW Tryz.func60 (by kernel_rfl) (by kernel_rfl)
  cases ok with
  | false =>
    have E4 : Hid (recCheck r = 4) := by unfold recCheck; exact if_pos (useR_none HOK.out)
    go_wp2_with fail
    go_ret
    exact ⟨retI E4.out.symm, HF10.out⟩
  | true =>
  obtain ⟨E, hsc⟩ := chk_split r n n2 us HUS.out HOK.out hl hl2
  obtain ⟨qp, hqp⟩ : ∃ q, q = hasR us 80 := ⟨_, rfl⟩
  obtain ⟨qn, hqn⟩ : ∃ q, q = hasR us 78 := ⟨_, rfl⟩
  obtain ⟨qt, hqt⟩ : ∃ q, q = hasR us 84 := ⟨_, rfl⟩
  obtain ⟨qh, hqh⟩ : ∃ q, q = hasR us 72 := ⟨_, rfl⟩
  obtain ⟨qs, hqs⟩ : ∃ q, q = hasR us 83 := ⟨_, rfl⟩
  obtain ⟨qc, hqc⟩ : ∃ q, q = hasR us 67 := ⟨_, rfl⟩
  obtain ⟨b1, t1⟩ : ∃ b, (r.place == 0) = b := ⟨_, rfl⟩
  obtain ⟨b2, t2⟩ : ∃ b, (r.n == 0) = b := ⟨_, rfl⟩
  obtain ⟨b3, t3⟩ : ∃ b, (r.try_ == 0) = b := ⟨_, rfl⟩
  obtain ⟨b4, t4⟩ : ∃ b, decide (r.h = Hd.zero) = b := ⟨_, rfl⟩
  obtain ⟨b5, t5⟩ : ∃ b, (r.s.id == 0) = b := ⟨_, rfl⟩
  obtain ⟨b6, t6⟩ : ∃ b, ((n : Int) == 0) = b := ⟨_, rfl⟩
  obtain ⟨b7, t7⟩ : ∃ b, ((n2 : Int) == 0) = b := ⟨_, rfl⟩
  obtain ⟨b8, t8⟩ : ∃ b, ((n2 : Int) != r.h.bytes) = b := ⟨_, rfl⟩
  obtain ⟨c1, d1⟩ : ∃ b, inR r.place 0 3 = b := ⟨_, rfl⟩
  obtain ⟨c2, d2⟩ : ∃ b, inR r.try_ 0 9999 = b := ⟨_, rfl⟩
  obtain ⟨c3, d3⟩ : ∃ b, inR r.n 0 1000000 = b := ⟨_, rfl⟩
  rw [← hqp, ← hqn, ← hqt, ← hqh, ← hqs, ← hqc, t1, t2, t3, t4, t5, t6, t7, t8, d1, d2, d3] at E
  rw [← hqs, ← hqc] at hsc
  have HH' := HH.out
  have HN' := HN.out
  obtain ⟨g1, G1⟩ : ∃ g, g = (qp || b1) := ⟨_, rfl⟩
  obtain ⟨g2, G2⟩ : ∃ g, g = (qn || b2) := ⟨_, rfl⟩
  obtain ⟨g3, G3⟩ : ∃ g, g = (qt || b3) := ⟨_, rfl⟩
  obtain ⟨g4, G4⟩ : ∃ g, g = (qh || b4) := ⟨_, rfl⟩
  obtain ⟨g5, G5⟩ : ∃ g, g = (qs || (b5 && b6)) := ⟨_, rfl⟩
  obtain ⟨g6, G6⟩ : ∃ g, g = (qc || b7) := ⟨_, rfl⟩
  have N1 : Hid (Calls Tryz.prog 61 #[.string ⟨#[80]⟩, .bool b1, .pointer (some ⟨fb, 0, none⟩)] W10 fun e w' => e = .returned (.bool g1) ∧ w' = W10) := by rw [G1, hqp]; exact HN' 80 b1
  have N2 : Hid (Calls Tryz.prog 61 #[.string ⟨#[78]⟩, .bool b2, .pointer (some ⟨fb, 0, none⟩)] W10 fun e w' => e = .returned (.bool g2) ∧ w' = W10) := by rw [G2, hqn]; exact HN' 78 b2
  have N3 : Hid (Calls Tryz.prog 61 #[.string ⟨#[84]⟩, .bool b3, .pointer (some ⟨fb, 0, none⟩)] W10 fun e w' => e = .returned (.bool g3) ∧ w' = W10) := by rw [G3, hqt]; exact HN' 84 b3
  have N4 : Hid (Calls Tryz.prog 61 #[.string ⟨#[72]⟩, .bool b4, .pointer (some ⟨fb, 0, none⟩)] W10 fun e w' => e = .returned (.bool g4) ∧ w' = W10) := by rw [G4, hqh]; exact HN' 72 b4
  have N5 : Hid (∀ bb, (b5 && b6) = bb → Calls Tryz.prog 61 #[.string ⟨#[83]⟩, .bool bb, .pointer (some ⟨fb, 0, none⟩)] W10 fun e w' => e = .returned (.bool g5) ∧ w' = W10) := by rintro _ rfl; rw [G5, hqs]; exact HN' 83 _
  have N6 : Hid (Calls Tryz.prog 61 #[.string ⟨#[67]⟩, .bool b7, .pointer (some ⟨fb, 0, none⟩)] W10 fun e w' => e = .returned (.bool g6) ∧ w' = W10) := by rw [G6, hqc]; exact HN' 67 b7
  have M4 : Hid (Calls Tryz.prog 60 #[.string ⟨#[72]⟩, .pointer (some ⟨sb, 0, none⟩)] W10 fun e w' => e = .returned (.bool qh) ∧ w' = W10) := by rw [hqh]; exact HH' 72
  rw [← G1, ← G2, ← G3, ← G4, ← G5, ← G6] at E
  have hq := fun (V : World) => eqHd r.h Hd.zero V
  rw [t4] at hq
  simp only [Hd.zero] at hq
  have EH := Lib.hid E
  have SC := Lib.hid hsc
  have QS := Lib.hid hqs
  have QC := Lib.hid hqc
  clear E hsc hqp hqn hqt hqh hqs hqc G1 G2 G3 G4 G5 G6 HH' HN' HN hl hl2 t4 HUS HOK
  go_upto_region 4 with fail
  go_cut [77] (fun s77 wx => ∃ B : Bool, s77 = .bool B ∧ Hid (B = true ↔ (g1 = false ∨ g2 = false ∨ g3 = false ∨ g4 = false ∨ g5 = false ∨ g6 = false)) ∧ wx = W10)
  case first =>
    clear EH SC QS QC d1 d2 d3 t8
    clear_value *
    cases b5
    all_goals
      repeat' (first | (refine at_callv2 _ _ 80 _ (by rfl) ?_; refine wpList_callv _ _ _ (by rfl) (by kernel_rfl) 61 #[.pointer (some ⟨fb, 0, none⟩)] (by rfl) hcf #[.string ⟨#[80]⟩, .bool b1, .pointer (some ⟨fb, 0, none⟩)] (by kernel_rfl) N1.out ?_; rintro e w1 ⟨rfl, rfl⟩; refine ⟨_, rfl, ?_⟩) | (refine at_callv2 _ _ 78 _ (by rfl) ?_; refine wpList_callv _ _ _ (by rfl) (by kernel_rfl) 61 #[.pointer (some ⟨fb, 0, none⟩)] (by rfl) hcf #[.string ⟨#[78]⟩, .bool b2, .pointer (some ⟨fb, 0, none⟩)] (by kernel_rfl) N2.out ?_; rintro e w1 ⟨rfl, rfl⟩; refine ⟨_, rfl, ?_⟩) | (refine at_callv2 _ _ 84 _ (by rfl) ?_; refine wpList_callv _ _ _ (by rfl) (by kernel_rfl) 61 #[.pointer (some ⟨fb, 0, none⟩)] (by rfl) hcf #[.string ⟨#[84]⟩, .bool b3, .pointer (some ⟨fb, 0, none⟩)] (by kernel_rfl) N3.out ?_; rintro e w1 ⟨rfl, rfl⟩; refine ⟨_, rfl, ?_⟩) | (refine at_callv2 _ _ 72 _ (by rfl) ?_; refine wpList_callv _ _ _ (by rfl) (by kernel_rfl) 61 #[.pointer (some ⟨fb, 0, none⟩)] (by rfl) hcf #[.string ⟨#[72]⟩, .bool b4, .pointer (some ⟨fb, 0, none⟩)] (by kernel_rfl) N4.out ?_; rintro e w1 ⟨rfl, rfl⟩; refine ⟨_, rfl, ?_⟩) | (refine at_callv2 _ _ 83 _ (by rfl) ?_; refine wpList_callv _ _ _ (by rfl) (by kernel_rfl) 61 #[.pointer (some ⟨fb, 0, none⟩)] (by rfl) hcf #[.string ⟨#[83]⟩, .bool _, .pointer (some ⟨fb, 0, none⟩)] (by kernel_rfl) (N5.out _ rfl) ?_; rintro e w1 ⟨rfl, rfl⟩; refine ⟨_, rfl, ?_⟩) | (refine at_callv2 _ _ 67 _ (by rfl) ?_; refine wpList_callv _ _ _ (by rfl) (by kernel_rfl) 61 #[.pointer (some ⟨fb, 0, none⟩)] (by rfl) hcf #[.string ⟨#[67]⟩, .bool b7, .pointer (some ⟨fb, 0, none⟩)] (by kernel_rfl) N6.out ?_; rintro e w1 ⟨rfl, rfl⟩; refine ⟨_, rfl, ?_⟩) | go_values | go_skip | go_guarded | go_step | go_upon | go_back)
    all_goals go_meet
    all_goals exact ⟨_, rfl, by unfold Hid; simp [*], rfl⟩
  case rest =>
  obtain ⟨B, rfl, HB, hwc⟩ := hcut
  rw [hwc]
  clear hwc N1 N2 N3 N4 N5 N6 t1 t2 t3 t5 t6 t7 hq
  cases B with
  | true =>
    have E1 : Hid (recCheck r = 4) := EH.out.trans (if_pos (HB.out.1 rfl))
    go_wp2_with fail
    go_ret
    exact ⟨retI E1.out.symm, HF10.out⟩
  | false =>
  have E1 := Lib.hid (EH.out.trans (if_neg fun e => absurd (HB.out.2 e) (by simp)))
  clear EH HB
  go_upto_region 6 with fail
  go_cut [93] (fun s93 wx => ∃ B : Bool, s93 = .bool B ∧ Hid (B = true ↔ (c1 = false ∨ c2 = false ∨ c3 = false)) ∧ wx = W10)
  case first =>
    clear E1
    go_wp2_with (go_at_call 62; refine (in_any _ _ _ _).mono ?_; rintro e w' ⟨rfl, rfl⟩)
    all_goals go_meet
    all_goals exact ⟨_, rfl, by unfold Hid; simp [*], rfl⟩
  case rest =>
  obtain ⟨B, rfl, HB, hwc⟩ := hcut
  rw [hwc]
  clear hwc d1 d2 d3
  cases B with
  | true =>
    have E2 : Hid (recCheck r = 3) := E1.out.trans (if_pos (HB.out.1 rfl))
    go_wp2_with fail
    go_ret
    exact ⟨retI E2.out.symm, HF10.out⟩
  | false =>
  have E2 := Lib.hid (E1.out.trans (if_neg fun e => absurd (HB.out.2 e) (by simp)))
  clear E1 HB
  have hld := HCF.out
  have hwh := HW.out.2.2.2.2.1
  obtain ⟨wB, wK⟩ := hwh.2.2.2.2
  obtain ⟨hd, hhd⟩ : ∃ hd, hd = hdCheck r.h := ⟨_, rfl⟩
  obtain ⟨cc, hcc⟩ : ∃ cc, cc = codeCheck r.h.bytes r.h.block r.s.id n := ⟨_, rfl⟩
  rw [← hhd, ← hcc] at E2
  have CHD : Hid (Calls Tryz.prog 63 #[.agg #[.int .i64 r.h.frm, .int .i64 r.h.seq, .int .i64 r.h.to, .int .i64 r.h.till, .int .i64 r.h.bytes, .int .i64 r.h.block]] W10 fun e w' => e = .returned (.int .i64 hd) ∧ Fr W10 w') := by rw [hhd]; exact refHead_any W10 r.h hwh
  (have Hhd := Lib.hid hhd; clear hhd; have Hcc := Lib.hid hcc; clear hcc)
  clear hwh
  go_upto_region 9 with fail
  go_cut [95] (fun s95 wx => s95 = .bool qh ∧ wx = W10)
  case first =>
    clear E2
    repeat' (first | (refine at_callv _ 72 _ (by rfl) ?_; refine wpList_callv _ _ _ (by rfl) (by kernel_rfl) 60 #[.pointer (some ⟨sb, 0, none⟩)] (by rfl) hcf1 #[.string ⟨#[72]⟩, .pointer (some ⟨sb, 0, none⟩)] (by kernel_rfl) (M4.out) ?_; rintro e w9 ⟨rfl, rfl⟩; refine ⟨_, rfl, ?_⟩) | go_values | go_skip | go_guarded | go_step | go_upon | go_back)
    go_meet
    exact ⟨rfl, rfl⟩
  case rest =>
  obtain ⟨rfl, hwc⟩ := hcut
  rw [hwc]
  clear hwc
  go_upto_if 95 with fail
  go_cut [7] (fun s7 wx => ∃ e1 : Int, s7 = .int .i64 e1 ∧ Hid (e1 = if qh = true then hd else 0) ∧ Hid (Fr W10 wx))
  case first =>
    cases qh with
    | false =>
      go_wp2_with fail
      go_meet
      exact ⟨0, rfl, rfl, Below.refl _ _⟩
    | true =>
      go_wp2_with fail
      (with_reducible refine (CHD.out).mono ?_)
      rintro e w2 ⟨rfl, hf2⟩
      have HF2 := Lib.hid hf2
      clear hf2
      go_wp2_with fail
      go_meet
      exact ⟨_, rfl, rfl, HF2.out⟩
  case rest =>
  obtain ⟨e1, rfl, HE1, HF2⟩ := hcut
  obtain ⟨W2, rfl⟩ : ∃ W2, W2 = wc := ⟨_, rfl⟩
  have HC2 := hld
  have hp2 := blk_go HP10.out HF2.out
  have hfb2 := HF2.out.cell (p := ⟨fb, 0, none⟩) (World.block_lt_of_cell? _ _ hld)
  have hld2 := hfb2.trans hld
  have hsb2 : Hid (∀ c : UInt8, Calls Tryz.prog 60 #[.string ⟨#[c]⟩, .pointer (some ⟨sb, 0, none⟩)] W2 fun e w' => e = .returned (.bool (hasR us c)) ∧ w' = W2) := fun c => refHas_any W2 sb us c ((HF2.out.cell (p := ⟨sb, 0, none⟩) (World.block_lt_of_cell? _ _ HCS.out)).trans HCS.out)
  have M5 : Hid (Calls Tryz.prog 60 #[.string ⟨#[83]⟩, .pointer (some ⟨sb, 0, none⟩)] W2 fun e w' => e = .returned (.bool qs) ∧ w' = W2) := by rw [QS.out]; exact hsb2.out 83
  have HP2 := Lib.hid hp2
  have HLD2 := Lib.hid hld2
  have HF2w : Hid (Fr w W2) := HF10.out.trans HF2.out
  clear bp0 bp1 bp2 bp3 bp4 bp5 bp6 bp7 bp8 bp9 bp10 bp11 bp12 hld HC2 hfb2 hsb2 M4 HP10 HF10 HH HCF CHD
  (obtain ⟨bp0, bp1, bp2, bp3, bp4, bp5, bp6, bp7, bp8, bp9, bp10, bp11, bp12⟩ := box13_ hp2)
  clear hp2
  obtain ⟨z1, k1⟩ : ∃ z, (e1 == 0) = z := ⟨_, rfl⟩
  have CSY : Hid (Calls Tryz.prog 64 #[.agg #[.int .i64 r.h.bytes, .int .i64 r.h.block], .agg #[.int .i64 r.s.id, .slice A n c]] W2 fun e w' => e = .returned (.int .i64 cc) ∧ Fr W2 w') := by rw [Hcc.out]; exact refSymbol_any W2 r.h.bytes r.h.block r.s.id A n c wB wK
  have K1 : Hid (z1 = true ↔ e1 = 0) := by rw [Hid, ← k1]; simp
  go_upto_region 11 with fail
  go_cut [104] (fun s104 wx => s104 = .bool (z1 && qs) ∧ wx = W2)
  case first =>
    clear E2
    cases z1
    all_goals
      repeat' (first | (refine at_callv _ 83 _ (by rfl) ?_; refine wpList_callv _ _ _ (by rfl) (by kernel_rfl) 60 #[.pointer (some ⟨sb, 0, none⟩)] (by rfl) hcf1 #[.string ⟨#[83]⟩, .pointer (some ⟨sb, 0, none⟩)] (by kernel_rfl) (M5.out) ?_; rintro e w9 ⟨rfl, rfl⟩; refine ⟨_, rfl, ?_⟩) | go_values | go_skip | go_guarded | go_step | go_upon | go_back)
    all_goals go_meet
    all_goals exact ⟨by simp, rfl⟩
  case rest =>
  obtain ⟨rfl, hwc⟩ := hcut
  rw [hwc]
  clear hwc
  obtain ⟨y1, Y1⟩ : ∃ y, y = (z1 && qs) := ⟨_, rfl⟩
  rw [← Y1]
  have HY1 := Lib.hid Y1
  clear Y1 k1 hld2
  go_upto_if 104 with fail
  go_cut [7] (fun s7 wx => ∃ e2 : Int, s7 = .int .i64 e2 ∧ Hid (e2 = if y1 = true then cc else e1) ∧ Hid (Fr W2 wx))
  case first =>
    cases y1 with
    | false =>
      go_wp2_with fail
      go_meet
      exact ⟨e1, rfl, rfl, Below.refl _ _⟩
    | true =>
      go_wp2_with fail
      (with_reducible refine (CSY.out).mono ?_)
      rintro e w2 ⟨rfl, hf2⟩
      have HF3 := Lib.hid hf2
      clear hf2
      go_wp2_with fail
      go_meet
      exact ⟨_, rfl, rfl, HF3.out⟩
  case rest =>
  obtain ⟨e2, rfl, HE2, HF3⟩ := hcut
  obtain ⟨W3, rfl⟩ : ∃ W3, W3 = wc := ⟨_, rfl⟩
  have hp3 := blk_go HP2.out HF3.out
  have hld3 := (HF3.out.cell (p := ⟨fb, 0, none⟩) (World.block_lt_of_cell? _ _ HLD2.out)).trans HLD2.out
  have hsbc := (HF2.out.cell (p := ⟨sb, 0, none⟩) (World.block_lt_of_cell? _ _ HCS.out)).trans HCS.out
  have M6 : Hid (Calls Tryz.prog 60 #[.string ⟨#[67]⟩, .pointer (some ⟨sb, 0, none⟩)] W3 fun e w' => e = .returned (.bool qc) ∧ w' = W3) := by rw [QC.out]; exact refHas_any W3 sb us 67 ((HF3.out.cell (p := ⟨sb, 0, none⟩) (World.block_lt_of_cell? _ _ hsbc)).trans hsbc)
  have HF3w : Hid (Fr w W3) := HF2w.out.trans HF3.out
  clear bp0 bp1 bp2 bp3 bp4 bp5 bp6 bp7 bp8 bp9 bp10 bp11 bp12 HP2 HLD2 M5 CSY hsbc
  (obtain ⟨bp0, bp1, bp2, bp3, bp4, bp5, bp6, bp7, bp8, bp9, bp10, bp11, bp12⟩ := box13_ hp3)
  clear hp3
  obtain ⟨z2, k2⟩ : ∃ z, (e2 == 0) = z := ⟨_, rfl⟩
  have K2 : Hid (z2 = true ↔ e2 = 0) := by rw [Hid, ← k2]; simp
  go_upto_region 13 with fail
  go_cut [126] (fun s126 wx => s126 = .bool (z2 && qc && b8) ∧ wx = W3)
  case first =>
    clear E2
    cases z2 <;> cases qc
    all_goals
      repeat' (first | (refine at_callv _ 67 _ (by rfl) ?_; refine wpList_callv _ _ _ (by rfl) (by kernel_rfl) 60 #[.pointer (some ⟨sb, 0, none⟩)] (by rfl) hcf1 #[.string ⟨#[67]⟩, .pointer (some ⟨sb, 0, none⟩)] (by kernel_rfl) (M6.out) ?_; rintro e w9 ⟨rfl, rfl⟩; refine ⟨_, rfl, ?_⟩) | go_values | go_skip | go_guarded | go_step | go_upon | go_back)
    all_goals go_meet
    all_goals exact ⟨by simp, rfl⟩
  case rest =>
  obtain ⟨rfl, hwc⟩ := hcut
  rw [hwc]
  clear hwc
  obtain ⟨y2, Y2⟩ : ∃ y, y = (z2 && qc && b8) := ⟨_, rfl⟩
  rw [← Y2]
  have HR : Hid (recCheck r = if y2 = true then 4 else e2) := chk_join E2.out HE1.out HE2.out HY1.out K1.out K2.out SC.out Y2
  clear E2 HE1 HE2 HY1 K1 K2 SC Y2 k2
  cases y2 with
  | true =>
    go_wp2_with fail
    go_ret
    exact ⟨retI HR.out.symm, HF3w.out⟩
  | false =>
    go_wp2_with fail
    go_ret
    exact ⟨retI HR.out.symm, HF3w.out⟩
end Go.Proofs.YtbincgbgeccccaaGreatDoor
