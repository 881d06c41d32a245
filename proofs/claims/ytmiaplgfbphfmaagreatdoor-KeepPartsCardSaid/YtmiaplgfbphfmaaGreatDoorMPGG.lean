/- note.Check whole. No condition. -/
import Derived.Test.YtmiaplgfbphfmaaGreatDoorMPR
import Derived.Test.YtmiaplgfbphfmaaGreatDoorMPP
import Derived.Test.YtmiaplgfbphfmaaGreatDoorMPI
import Derived.Test.YtmiaplgfbphfmaaGreatDoorChecked
import Derived.Lib.Strings
import Derived.Lib.Slices
import Derived.Lib.Walk
import Derived.Lib.Bytealg
import Derived.Test.YtmiaplgfbphfmaaGreatDoorMPB
import Derived.Orders
import Derived.Test.YtmiaplgfbphfmaaGreatDoorMPGC
import Derived.Test.YtmiaplgfbphfmaaGreatDoorMPGA
import Derived.BigGuardPart
import Derived.Deep.DeepCutAuto
import Derived.Deep.Cut
set_option linter.unusedSimpArgs false
set_option linter.unusedVariables false
namespace Go.Proofs.YtmiaplgfbphfmaaGreatDoor
open Go.RowKit
attribute [local irreducible] wpList

set_option maxHeartbeats 1000000 in
theorem noteHead_any (w : World) (h : Hd) (hw : h.wf) : Calls Tryz.prog 103 #[.agg #[.int .i64 h.frm, .int .i64 h.seq, .int .i64 h.to, .int .i64 h.till, .int .i64 h.bytes, .int .i64 h.block]] w fun e w' => e = .returned (.int .i64 (hdCheck h)) ∧ Fr w w' := by
  obtain ⟨_, _, _, _, wB, wK⟩ := hw
  go_enter Tryz.func103, Tryz.ntmps103
  go_wp2_with (go_at_call 139; refine (cutCheck_any _ _ _ wB wK).mono ?_; rintro e w1 ⟨rfl, hf1⟩; have Hf1 := Lib.hid hf1; clear hf1)
  all_goals (try simp only [beq_iff_eq, bne_iff_ne, beq_eq_false_iff_ne, bne_eq_false_iff_eq, ne_eq, Decidable.not_not, Int.natCast_inj, Bool.or_eq_true, Bool.and_eq_true, Bool.or_eq_false_iff, Bool.and_eq_false_iff, Bool.not_eq_true', Bool.not_eq_false', decide_eq_true_eq, decide_eq_false_iff_not, Bool.not_eq_true, Bool.not_eq_false] at *)
  all_goals go_ret
  all_goals exact ⟨retI (by unfold hdCheck; (repeat' split) <;> first | rfl | omega), (by (repeat' (first | exact Below.refl _ _ | refine below_drewN ?_ _ | refine Below.drew ?_ | refine frA ?_ _ | refine Fr.trans ?_ Hf1.out)))⟩
end Go.Proofs.YtmiaplgfbphfmaaGreatDoor
namespace Go.Proofs
set_option maxHeartbeats 1000000 in
set_option maxRecDepth 100000 in
theorem Tryz.stringslite_IndexByte (s : ByteArray) (c : Int) (w : World) :
    Calls Tryz.prog 178 #[.string s, .int .u8 c] w fun e w' => e = .returned (.int .i64 (Lib.indexByte s.data.toList c.toNat.toUInt8)) ∧ w' = w := by
  go_enter Tryz.func178, Tryz.ntmps178
  go_wp2
  rw [run_callFunc_extern Tryz.func210 (by kernel_rfl) (by kernel_rfl) (by kernel_rfl) (e := Extern.BytealgIndexByte.indexByte) (by kernel_rfl), Lib.run_indexByteString]
  simp only [Result.andThen]
  rw [Oper.upon_value]
  go_wp2
  go_ret
  exact ⟨rfl, rfl⟩


set_option maxHeartbeats 2000000 in
set_option maxRecDepth 100000 in
theorem Tryz.stringslite_Index_one (s : ByteArray) (c : UInt8) (w : World) :
    Calls Tryz.prog 159 #[.string s, .string ⟨#[c]⟩] w fun e w' => e = .returned (.int .i64 (Lib.indexByte s.data.toList c)) ∧ w' = w := by
  go_enter Tryz.func159, Tryz.ntmps159
  go_wp2_with (go_at_call 178; refine (Tryz.stringslite_IndexByte _ _ _).mono ?_; rintro e w' ⟨rfl, rfl⟩)
  · have h : ([c] == s.toList) = true := by assumption
    go_ret
    refine ⟨?_, rfl⟩
    have e : s.data.toList = [c] := by rw [← Lib.toList_data]; exact (beq_iff_eq.1 h).symm
    rw [e]
    simp [Lib.indexByte]
  · go_ret
    exact ⟨rfl, rfl⟩


set_option maxHeartbeats 1000000 in
theorem Tryz.strings_Index_one (s : ByteArray) (c : UInt8) (w : World) :
    Calls Tryz.prog 138 #[.string s, .string ⟨#[c]⟩] w fun e w' => e = .returned (.int .i64 (Lib.indexByte s.data.toList c)) ∧ w' = w := by
  go_enter Tryz.func138, Tryz.ntmps138
  go_wp2_with (go_at_call 159; refine (Tryz.stringslite_Index_one _ _ _).mono ?_; rintro e w' ⟨rfl, rfl⟩)
  go_ret
  exact ⟨rfl, rfl⟩


set_option maxHeartbeats 1000000 in
theorem Tryz.strings_Contains_one (s : ByteArray) (c : UInt8) (w : World) :
    Calls Tryz.prog 101 #[.string s, .string ⟨#[c]⟩] w fun e w' => e = .returned (.bool (decide (0 ≤ Lib.indexByte s.data.toList c))) ∧ w' = w := by
  go_enter Tryz.func101, Tryz.ntmps101
  go_wp2_with (go_at_call 138; refine (Tryz.strings_Index_one _ _ _).mono ?_; rintro e w' ⟨rfl, rfl⟩)
  go_ret
  exact ⟨rfl, rfl⟩


end Go.Proofs
namespace Go.Proofs.YtmiaplgfbphfmaaGreatDoor
open Go.RowKit

/-- Where the first part ends R holds; every other end is as it was. -/
def Seg (Q : Exit → Act → World → Prop) (R : Act → World → Prop) : Exit → Act → World → Prop
  | .normal => R
  | e => Q e
section
variable {P : Program} {ops : Array Oper} {Q : Exit → Act → World → Prop} {R : Act → World → Prop} {next : Act → World → Prop} {a : Act} {w : World} {o : Oper}
theorem upon_seg {r : Result Next} (h : o.upon P a next (Seg Q R) r) : o.upon P a next Q r := by
  unfold Oper.upon at h ⊢
  split at h
  all_goals first
    | exact h
    | (refine h.mono fun e w' he => ?_
       cases e <;> exact he)
theorem wpList_seg : ∀ (l1 l2 : List Oper) (a : Act) (w : World), wpList P ops (Seg Q R) l1 a w → (∀ a' w', R a' w' → wpList P ops Q l2 a' w') → wpList P ops Q (l1 ++ l2) a w
  | [], l2, a, w, h, k => k a w h
  | o :: l1, l2, a, w, h, k => by
    rw [List.cons_append]
    unfold wpList at h ⊢
    split
    · rename_i hw
      rw [if_pos hw] at h
      rcases h with h | h
      · refine .inl ?_
        unfold Oper.wp at h ⊢
        have h2 := upon_seg h
        exact Oper.wp_mono (o := o) (fun a' w' hh => wpList_seg l1 l2 a' w' hh k) h2
      · exact .inr h
    · rename_i hw
      rw [if_neg hw] at h
      exact wpList_seg l1 l2 _ w h k
/-- Cut behind k operations. -/
theorem wpList_cut {l : List Oper} (k : Nat) (R : Act → World → Act → World → Prop) (h1 : wpList P ops (Seg Q (R a w)) (l.take k) a w) (h2 : ∀ a' w', R a w a' w' → wpList P ops Q (l.drop k) a' w') : wpList P ops Q l a w := by
  have := wpList_seg (l.take k) (l.drop k) a w h1 h2
  rwa [List.take_append_drop] at this
end
end Go.Proofs.YtmiaplgfbphfmaaGreatDoor
namespace Go.Proofs.YtmiaplgfbphfmaaGreatDoor
open Go.RowKit
attribute [local irreducible] wpList

def usesB (k : Int) : ByteArray := if k = 1 then ⟨#[110, 104, 99]⟩ else if k = 2 then ⟨#[104, 115]⟩ else if k = 3 then ⟨#[104, 99]⟩ else if k = 4 then ⟨#[112, 110, 116, 104]⟩ else if k = 5 then ⟨#[116, 104]⟩ else if k = 6 then ⟨#[112, 110, 116, 104]⟩ else if k = 7 then ⟨#[104]⟩ else ⟨#[110]⟩
theorem kinds8 {k : Int} (h : 1 ≤ k ∧ k ≤ 8) : k = 1 ∨ k = 2 ∨ k = 3 ∨ k = 4 ∨ k = 5 ∨ k = 6 ∨ k = 7 ∨ k = 8 := by omega
set_option maxRecDepth 100000 in
theorem uses_any (w : World) (k : Int) (h : 1 ≤ k ∧ k ≤ 8) : Calls Tryz.prog 102 #[.int .i64 k] w fun e w' => e = .returned (.string (usesB k)) ∧ w' = w := by
  have hix : ∀ (k : Int) (W : World), 1 ≤ k → k ≤ 8 → (Sem.run Tryz.prog (Instr.index 202 (.agg #[.string ⟨#[]⟩, .string ⟨#[110, 104, 99]⟩, .string ⟨#[104, 115]⟩, .string ⟨#[104, 99]⟩, .string ⟨#[112, 110, 116, 104]⟩, .string ⟨#[116, 104]⟩, .string ⟨#[112, 110, 116, 104]⟩, .string ⟨#[104]⟩, .string ⟨#[110]⟩]) (.int .i64 k)) W) = .ok (.string (usesB k)) W := fun k W h1 h2 => by
    rcases kinds8 ⟨h1, h2⟩ with rfl | rfl | rfl | rfl | rfl | rfl | rfl | rfl <;> kernel_rfl
  rcases kinds8 h with rfl | rfl | rfl | rfl | rfl | rfl | rfl | rfl
  all_goals
    have hix' := fun W => hix _ W h.1 h.2
    clear hix
    go_enter Tryz.func102, Tryz.ntmps102
    go_wp2_with fail
    go_ret
    exact ⟨rfl, rfl⟩
theorem us_p {k : Int} (h : 1 ≤ k ∧ k ≤ 8) : decide (0 ≤ Lib.indexByte (usesB k).data.toList 112) = usP k := by
  rcases kinds8 h with rfl | rfl | rfl | rfl | rfl | rfl | rfl | rfl <;> decide
theorem us_n {k : Int} (h : 1 ≤ k ∧ k ≤ 8) : decide (0 ≤ Lib.indexByte (usesB k).data.toList 110) = usN k := by
  rcases kinds8 h with rfl | rfl | rfl | rfl | rfl | rfl | rfl | rfl <;> decide
theorem us_t {k : Int} (h : 1 ≤ k ∧ k ≤ 8) : decide (0 ≤ Lib.indexByte (usesB k).data.toList 116) = usT k := by
  rcases kinds8 h with rfl | rfl | rfl | rfl | rfl | rfl | rfl | rfl <;> decide
theorem us_h {k : Int} (h : 1 ≤ k ∧ k ≤ 8) : decide (0 ≤ Lib.indexByte (usesB k).data.toList 104) = usH k := by
  rcases kinds8 h with rfl | rfl | rfl | rfl | rfl | rfl | rfl | rfl <;> decide
theorem us_s {k : Int} (h : 1 ≤ k ∧ k ≤ 8) : decide (0 ≤ Lib.indexByte (usesB k).data.toList 115) = usS k := by
  rcases kinds8 h with rfl | rfl | rfl | rfl | rfl | rfl | rfl | rfl <;> decide
theorem us_c {k : Int} (h : 1 ≤ k ∧ k ≤ 8) : decide (0 ≤ Lib.indexByte (usesB k).data.toList 99) = usC k := by
  rcases kinds8 h with rfl | rfl | rfl | rfl | rfl | rfl | rfl | rfl <;> decide
theorem has_any (w : World) (b : Nat) (k : Int) (c : UInt8) (h : 1 ≤ k ∧ k ≤ 8) (hc : w.cell? ⟨b, 0, none⟩ = some (.int .i64 k)) :
    Calls Tryz.prog 100 #[.string ⟨#[c]⟩, .pointer (some ⟨b, 0, none⟩)] w fun e w' => e = .returned (.bool (decide (0 ≤ Lib.indexByte (usesB k).data.toList c))) ∧ w' = w := by
  go_enter Tryz.func100, Tryz.ntmps100
  go_wp2_with (first | (go_at_call 102; (with_reducible refine (uses_any _ _ h).mono ?_); rintro e w1 ⟨rfl, rfl⟩) | (go_at_call 101; (with_reducible refine (Tryz.strings_Contains_one _ _ _).mono ?_); rintro e w1 ⟨rfl, rfl⟩))
  go_ret
  exact ⟨rfl, rfl⟩

theorem rec_split (r : Rc) (n n2 : Nat) (hk : 1 ≤ r.kind ∧ r.kind ≤ 8) (hl : r.s.data.length = n) (hl2 : r.cargo.length = n2) : recCheck r = if (usP r.kind = false ∧ r.place ≠ 0) ∨ (usN r.kind = false ∧ r.n ≠ 0) ∨ (usT r.kind = false ∧ r.try_ ≠ 0) ∨ (usH r.kind = false ∧ r.h ≠ Hd.zero) ∨ (usS r.kind = false ∧ (r.s.id ≠ 0 ∨ 0 < n)) ∨ (usC r.kind = false ∧ 0 < n2) then 4
      else if r.place < 0 ∨ 4 ≤ r.place ∨ r.try_ < 0 ∨ 9999 < r.try_ ∨ r.n < 0 ∨ 1000000 < r.n then 3
      else if usH r.kind = true ∧ hdCheck r.h ≠ 0 then hdCheck r.h
      else if usS r.kind = true then codeCheck r.h.bytes r.h.block r.s.id n
      else if usC r.kind = true ∧ (n2 : Int) ≠ r.h.bytes then 4 else 0 := by
  unfold recCheck; rw [if_neg (by omega), hl, hl2]
set_option maxRecDepth 100000 in
set_option maxHeartbeats 4000000 in
theorem noteCheck_good (w : World) (r : Rc) (k : Int) (hk : r.kind = k) (A : Option Addr) (n c : Nat) (A2 : Option Addr) (n2 c2 : Nat) (hw : r.wf) (hl : r.s.data.length = n) (hl2 : r.cargo.length = n2) (hk8 : 1 ≤ k ∧ k ≤ 8) :
    Calls Tryz.prog 64 #[.agg #[.int .i64 r.kind, .int .i64 r.place, .int .i64 r.n, .int .i64 r.try_, .int .i64 r.h.frm, .int .i64 r.h.seq, .int .i64 r.h.to, .int .i64 r.h.till, .int .i64 r.h.bytes, .int .i64 r.h.block, .int .i64 r.s.id, .slice A n c, .slice A2 n2 c2]] w fun e w' => e = .returned (.int .i64 (recCheck r)) ∧ Fr w w' := by
  obtain ⟨_, _, _, _, hwh, _⟩ := hw
  have hwh' := hwh
  obtain ⟨_, _, _, _, wB, wK⟩ := hwh'
  have E : Hid (_ = _) := rec_split r n n2 (by omega) hl hl2
  obtain ⟨bp, ep⟩ : ∃ b, usP k = b := ⟨_, rfl⟩
  obtain ⟨bn, en⟩ : ∃ b, usN k = b := ⟨_, rfl⟩
  obtain ⟨bt, et⟩ : ∃ b, usT k = b := ⟨_, rfl⟩
  obtain ⟨bh, eh⟩ : ∃ b, usH k = b := ⟨_, rfl⟩
  obtain ⟨bs, es⟩ : ∃ b, usS k = b := ⟨_, rfl⟩
  obtain ⟨bc, ec⟩ : ∃ b, usC k = b := ⟨_, rfl⟩
  have UP := Lib.hid ((us_p hk8).trans ep)
  have UN := Lib.hid ((us_n hk8).trans en)
  have UT := Lib.hid ((us_t hk8).trans et)
  have UH := Lib.hid ((us_h hk8).trans eh)
  have US := Lib.hid ((us_s hk8).trans es)
  have UC := Lib.hid ((us_c hk8).trans ec)
  rw [hk, ep, en, et, eh, es, ec] at E
  obtain ⟨b1, t1⟩ : ∃ b, (r.place != 0) = b := ⟨_, rfl⟩
  obtain ⟨b2, t2⟩ : ∃ b, (r.n != 0) = b := ⟨_, rfl⟩
  obtain ⟨b3, t3⟩ : ∃ b, (r.try_ != 0) = b := ⟨_, rfl⟩
  obtain ⟨b4, t4⟩ : ∃ b, (decide (r.h = Hd.zero)) = b := ⟨_, rfl⟩
  obtain ⟨b5, t5⟩ : ∃ b, (r.s.id != 0) = b := ⟨_, rfl⟩
  obtain ⟨b6, t6⟩ : ∃ b, decide (0 < n) = b := ⟨_, rfl⟩
  obtain ⟨b7, t7⟩ : ∃ b, decide (0 < n2) = b := ⟨_, rfl⟩
  have t6' : decide ((0 : Int) < (n : Int)) = b6 := by rw [← t6]; simp
  have t7' : decide ((0 : Int) < (n2 : Int)) = b7 := by rw [← t7]; simp
  have TT : Hid (((r.place ≠ 0) ↔ b1 = true) ∧ ((r.n ≠ 0) ↔ b2 = true) ∧ ((r.try_ ≠ 0) ↔ b3 = true) ∧ ((r.h ≠ Hd.zero) ↔ b4 = false) ∧ ((r.s.id ≠ 0) ↔ b5 = true) ∧ (0 < n ↔ b6 = true) ∧ (0 < n2 ↔ b7 = true)) := by
    rw [← t1, ← t2, ← t3, ← t4, ← t5, ← t6, ← t7]; simp [Hid]
  have hq := fun (V : World) => eqHd r.h Hd.zero V
  rw [t4] at hq
  simp only [Hd.zero] at hq
  have HK8 := Lib.hid hk8
  have hcf : ∀ (args : Array Value) (W : World), (callFunc 100 args).run Tryz.prog W = .ok (.enter 100 args) W := entersW Tryz.func100 (by kernel_rfl) (by kernel_rfl)
  have q1 : ¬ k < 1 := by omega
  have q8 : ¬ 8 < k := by omega
  rw [hk]
  have HC0 : Hid ((w.alloc (.cells #[.int .i64 k, .int .i64 r.place, .int .i64 r.n, .int .i64 r.try_, .int .i64 r.h.frm, .int .i64 r.h.seq, .int .i64 r.h.to, .int .i64 r.h.till, .int .i64 r.h.bytes, .int .i64 r.h.block, .int .i64 r.s.id, .slice A n c, .slice A2 n2 c2] 40)).cell? ⟨w.heap.size, 0, none⟩ = some (.int .i64 k)) := cell_of_heap (heap_new rfl)
  clear hk hk8 hl hl2 t4 ep en et eh es ec
  go_enter Tryz.func64, Tryz.ntmps64
  go_upto_region 4 with fail
  go_cut [81] (fun s81 wx => ∃ B : Bool, s81 = .bool B ∧ Hid (B = true ↔ (((((((bp = false ∧ b1 = true)) ∨ (bn = false ∧ b2 = true)) ∨ (bt = false ∧ b3 = true)) ∨ (bh = false ∧ b4 = false)) ∨ (bs = false ∧ (b5 = true ∨ b6 = true))) ∨ (bc = false ∧ b7 = true))) ∧ wx = w.alloc (.cells #[.int .i64 k, .int .i64 r.place, .int .i64 r.n, .int .i64 r.try_, .int .i64 r.h.frm, .int .i64 r.h.seq, .int .i64 r.h.to, .int .i64 r.h.till, .int .i64 r.h.bytes, .int .i64 r.h.block, .int .i64 r.s.id, .slice A n c, .slice A2 n2 c2] 40))
  case first =>
    clear E TT hwh wB wK q1 q8
    clear_value *
    go_step
    simp only [List.append_eq, List.cons_append, List.nil_append]
    refine wpList_cut 8 (fun a0 w0 a' w' => w' = w0 ∧ ∃ (v14 v15 v16 v17 v18 v19 v20 : Value) (B : Bool), a' = ((((((((a0.put (some 14) v14).put (some 15) v15).put (some 16) v16).put (some 17) v17).put (some 18) v18).put (some 19) v19).put (some 20) v20).put (some 21) (.bool B)) ∧ Hid (B = true ↔ ((bp = false ∧ b1 = true)))) ?_ ?_
    · simp only [List.take_succ_cons, List.take_zero, Act.put, List.setIfInBounds_toArray, List.set_cons_zero, List.set_cons_succ]
      repeat' (first | ((refine at_callv _ 112 _ (by rfl) ?_); (refine wpList_callv _ _ _ (by rfl) (by kernel_rfl) 100 #[.pointer (some ⟨w.heap.size, 0, none⟩)] (by rfl) hcf #[.string ⟨#[112]⟩, .pointer (some ⟨w.heap.size, 0, none⟩)] (by kernel_rfl) (has_any _ _ k 112 HK8.out HC0.out) ?_); rintro e w1 ⟨rfl, rfl⟩; refine ⟨_, congrArg (fun b => Ending.returned (.bool b)) UP.out, ?_⟩) | go_values | go_skip | go_guarded | go_step | go_upon | go_back)
      all_goals
        refine ⟨rfl, _, _, _, _, _, _, _, _, rfl, ?_⟩
        unfold Hid; first | (simp; done) | (simp [*]; done)
    · rintro _ _ ⟨rfl, v14, v15, v16, v17, v18, v19, v20, B1, rfl, HB1⟩
      try simp only [Act.put, List.setIfInBounds_toArray, List.set_cons_zero, List.set_cons_succ]
      try simp only [List.drop_succ_cons, List.drop_zero]
      refine wpList_cut 10 (fun a0 w0 a' w' => w' = w0 ∧ ∃ (v22 v23 v24 v25 v26 v27 v28 v29 v30 : Value) (B : Bool), a' = ((((((((((a0.put (some 22) v22).put (some 23) v23).put (some 24) v24).put (some 25) v25).put (some 26) v26).put (some 27) v27).put (some 28) v28).put (some 29) v29).put (some 30) v30).put (some 31) (.bool B)) ∧ Hid (B = true ↔ (B1 = true ∨ (bn = false ∧ b2 = true)))) ?_ ?_
      · simp only [List.take_succ_cons, List.take_zero, Act.put, List.setIfInBounds_toArray, List.set_cons_zero, List.set_cons_succ]
        repeat' (first | ((refine at_callv _ 110 _ (by rfl) ?_); (refine wpList_callv _ _ _ (by rfl) (by kernel_rfl) 100 #[.pointer (some ⟨w.heap.size, 0, none⟩)] (by rfl) hcf #[.string ⟨#[110]⟩, .pointer (some ⟨w.heap.size, 0, none⟩)] (by kernel_rfl) (has_any _ _ k 110 HK8.out HC0.out) ?_); rintro e w1 ⟨rfl, rfl⟩; refine ⟨_, congrArg (fun b => Ending.returned (.bool b)) UN.out, ?_⟩) | go_values | go_skip | go_guarded | go_step | go_upon | go_back)
        all_goals
          refine ⟨rfl, _, _, _, _, _, _, _, _, _, _, rfl, ?_⟩
          unfold Hid; first | (simp; done) | (simp [*]; done)
      · rintro _ _ ⟨rfl, v22, v23, v24, v25, v26, v27, v28, v29, v30, B2, rfl, HB2⟩
        try simp only [Act.put, List.setIfInBounds_toArray, List.set_cons_zero, List.set_cons_succ]
        try simp only [List.drop_succ_cons, List.drop_zero]
        refine wpList_cut 10 (fun a0 w0 a' w' => w' = w0 ∧ ∃ (v32 v33 v34 v35 v36 v37 v38 v39 v40 : Value) (B : Bool), a' = ((((((((((a0.put (some 32) v32).put (some 33) v33).put (some 34) v34).put (some 35) v35).put (some 36) v36).put (some 37) v37).put (some 38) v38).put (some 39) v39).put (some 40) v40).put (some 41) (.bool B)) ∧ Hid (B = true ↔ (B2 = true ∨ (bt = false ∧ b3 = true)))) ?_ ?_
        · simp only [List.take_succ_cons, List.take_zero, Act.put, List.setIfInBounds_toArray, List.set_cons_zero, List.set_cons_succ]
          repeat' (first | ((refine at_callv _ 116 _ (by rfl) ?_); (refine wpList_callv _ _ _ (by rfl) (by kernel_rfl) 100 #[.pointer (some ⟨w.heap.size, 0, none⟩)] (by rfl) hcf #[.string ⟨#[116]⟩, .pointer (some ⟨w.heap.size, 0, none⟩)] (by kernel_rfl) (has_any _ _ k 116 HK8.out HC0.out) ?_); rintro e w1 ⟨rfl, rfl⟩; refine ⟨_, congrArg (fun b => Ending.returned (.bool b)) UT.out, ?_⟩) | go_values | go_skip | go_guarded | go_step | go_upon | go_back)
          all_goals
            refine ⟨rfl, _, _, _, _, _, _, _, _, _, _, rfl, ?_⟩
            unfold Hid; first | (simp; done) | (simp [*]; done)
        · rintro _ _ ⟨rfl, v32, v33, v34, v35, v36, v37, v38, v39, v40, B3, rfl, HB3⟩
          try simp only [Act.put, List.setIfInBounds_toArray, List.set_cons_zero, List.set_cons_succ]
          try simp only [List.drop_succ_cons, List.drop_zero]
          refine wpList_cut 11 (fun a0 w0 a' w' => w' = w0 ∧ ∃ (v42 v43 v44 v45 v46 v47 v48 v49 v50 v51 : Value) (B : Bool), a' = (((((((((((a0.put (some 42) v42).put (some 43) v43).put (some 44) v44).put (some 45) v45).put (some 46) v46).put (some 47) v47).put (some 48) v48).put (some 49) v49).put (some 50) v50).put (some 51) v51).put (some 52) (.bool B)) ∧ Hid (B = true ↔ (B3 = true ∨ (bh = false ∧ b4 = false)))) ?_ ?_
          · simp only [List.take_succ_cons, List.take_zero, Act.put, List.setIfInBounds_toArray, List.set_cons_zero, List.set_cons_succ]
            repeat' (first | ((refine at_callv _ 104 _ (by rfl) ?_); (refine wpList_callv _ _ _ (by rfl) (by kernel_rfl) 100 #[.pointer (some ⟨w.heap.size, 0, none⟩)] (by rfl) hcf #[.string ⟨#[104]⟩, .pointer (some ⟨w.heap.size, 0, none⟩)] (by kernel_rfl) (has_any _ _ k 104 HK8.out HC0.out) ?_); rintro e w1 ⟨rfl, rfl⟩; refine ⟨_, congrArg (fun b => Ending.returned (.bool b)) UH.out, ?_⟩) | go_values | go_skip | go_guarded | go_step | go_upon | go_back)
            all_goals
              refine ⟨rfl, _, _, _, _, _, _, _, _, _, _, _, rfl, ?_⟩
              unfold Hid; first | (simp; done) | (simp [*]; done)
          · rintro _ _ ⟨rfl, v42, v43, v44, v45, v46, v47, v48, v49, v50, v51, B4, rfl, HB4⟩
            try simp only [Act.put, List.setIfInBounds_toArray, List.set_cons_zero, List.set_cons_succ]
            try simp only [List.drop_succ_cons, List.drop_zero]
            refine wpList_cut 18 (fun a0 w0 a' w' => w' = w0 ∧ ∃ (v53 v54 v55 v56 v57 v58 v59 v60 v61 v62 v63 v64 v65 v66 v67 v68 v69 : Value) (B : Bool), a' = ((((((((((((((((((a0.put (some 53) v53).put (some 54) v54).put (some 55) v55).put (some 56) v56).put (some 57) v57).put (some 58) v58).put (some 59) v59).put (some 60) v60).put (some 61) v61).put (some 62) v62).put (some 63) v63).put (some 64) v64).put (some 65) v65).put (some 66) v66).put (some 67) v67).put (some 68) v68).put (some 69) v69).put (some 70) (.bool B)) ∧ Hid (B = true ↔ (B4 = true ∨ (bs = false ∧ (b5 = true ∨ b6 = true))))) ?_ ?_
            · simp only [List.take_succ_cons, List.take_zero, Act.put, List.setIfInBounds_toArray, List.set_cons_zero, List.set_cons_succ]
              repeat' (first | ((refine at_callv _ 115 _ (by rfl) ?_); (refine wpList_callv _ _ _ (by rfl) (by kernel_rfl) 100 #[.pointer (some ⟨w.heap.size, 0, none⟩)] (by rfl) hcf #[.string ⟨#[115]⟩, .pointer (some ⟨w.heap.size, 0, none⟩)] (by kernel_rfl) (has_any _ _ k 115 HK8.out HC0.out) ?_); rintro e w1 ⟨rfl, rfl⟩; refine ⟨_, congrArg (fun b => Ending.returned (.bool b)) US.out, ?_⟩) | go_values | go_skip | go_guarded | go_step | go_upon | go_back)
              all_goals
                refine ⟨rfl, _, _, _, _, _, _, _, _, _, _, _, _, _, _, _, _, _, _, rfl, ?_⟩
                unfold Hid; first | (simp; done) | (simp [*]; done)
            · rintro _ _ ⟨rfl, v53, v54, v55, v56, v57, v58, v59, v60, v61, v62, v63, v64, v65, v66, v67, v68, v69, B5, rfl, HB5⟩
              try simp only [Act.put, List.setIfInBounds_toArray, List.set_cons_zero, List.set_cons_succ]
              try simp only [List.drop_succ_cons, List.drop_zero]
              refine wpList_cut 11 (fun a0 w0 a' w' => w' = w0 ∧ ∃ (v71 v72 v73 v74 v75 v76 v77 v78 v79 v80 : Value) (B : Bool), a' = (((((((((((a0.put (some 71) v71).put (some 72) v72).put (some 73) v73).put (some 74) v74).put (some 75) v75).put (some 76) v76).put (some 77) v77).put (some 78) v78).put (some 79) v79).put (some 80) v80).put (some 81) (.bool B)) ∧ Hid (B = true ↔ (B5 = true ∨ (bc = false ∧ b7 = true)))) ?_ ?_
              · simp only [List.take_succ_cons, List.take_zero, Act.put, List.setIfInBounds_toArray, List.set_cons_zero, List.set_cons_succ]
                repeat' (first | ((refine at_callv _ 99 _ (by rfl) ?_); (refine wpList_callv _ _ _ (by rfl) (by kernel_rfl) 100 #[.pointer (some ⟨w.heap.size, 0, none⟩)] (by rfl) hcf #[.string ⟨#[99]⟩, .pointer (some ⟨w.heap.size, 0, none⟩)] (by kernel_rfl) (has_any _ _ k 99 HK8.out HC0.out) ?_); rintro e w1 ⟨rfl, rfl⟩; refine ⟨_, congrArg (fun b => Ending.returned (.bool b)) UC.out, ?_⟩) | go_values | go_skip | go_guarded | go_step | go_upon | go_back)
                all_goals
                  refine ⟨rfl, _, _, _, _, _, _, _, _, _, _, _, rfl, ?_⟩
                  unfold Hid; first | (simp; done) | (simp [*]; done)
              · rintro _ _ ⟨rfl, v71, v72, v73, v74, v75, v76, v77, v78, v79, v80, B6, rfl, HB6⟩
                try simp only [Act.put, List.setIfInBounds_toArray, List.set_cons_zero, List.set_cons_succ]
                try simp only [List.drop_succ_cons, List.drop_zero]
                repeat' (first | go_values | go_skip | go_guarded | go_step | go_upon | go_back)
                go_meet
                exact ⟨B6, rfl, by rw [Hid, HB6.out, HB5.out, HB4.out, HB3.out, HB2.out, HB1.out], rfl⟩
  case rest =>
    obtain ⟨B, rfl, HB, hwc⟩ := hcut
    obtain ⟨W1, hW1⟩ : ∃ W1, W1 = wc := ⟨_, rfl⟩
    obtain ⟨p, hp⟩ : ∃ p, p = w.heap.size := ⟨_, rfl⟩
    have hbx : W1.heap[p]? = some (.cells #[.int .i64 k, .int .i64 r.place, .int .i64 r.n, .int .i64 r.try_, .int .i64 r.h.frm, .int .i64 r.h.seq, .int .i64 r.h.to, .int .i64 r.h.till, .int .i64 r.h.bytes, .int .i64 r.h.block, .int .i64 r.s.id, .slice A n c, .slice A2 n2 c2] 40 (0, 0)) := by rw [hW1, hwc]; exact heap_new hp
    have HF1 : Hid (Fr w W1) := by rw [hW1, hwc]; exact frAlloc _ _
    rw [← hW1, ← hp]
    have HC1 : Hid (W1.cell? ⟨p, 0, none⟩ = some (.int .i64 k)) := cell_of_heap hbx
    (obtain ⟨bx0, bx1, bx2, bx3, bx4, bx5, bx6, bx7, bx8, bx9, bx10, bx11, bx12⟩ := box13_ hbx)
    have HBX := Lib.hid hbx
    clear hbx hW1 hwc HC0 hp
    cases B with
    | true =>
      have E1 : Hid (recCheck r = 4) := by
        rw [Hid, E.out, if_pos]
        obtain ⟨q1, q2, q3, q4, q5, q6, q7⟩ := TT.out
        rw [q1, q2, q3, q4, q5, q6, q7]
        simpa only [or_assoc] using HB.out.1 rfl
      clear E TT HB
      go_wp2_with fail
      go_ret
      exact ⟨retI E1.out.symm, HF1.out⟩
    | false =>
      have E1 := Lib.hid (E.out.trans (if_neg (fun e => by
        obtain ⟨q1, q2, q3, q4, q5, q6, q7⟩ := TT.out
        rw [q1, q2, q3, q4, q5, q6, q7] at e
        exact absurd (HB.out.2 (by simpa only [or_assoc] using e)) (by simp))))
      clear E TT HB t1 t2 t3 t5 t6 t7 t6' t7'
      go_upto_region 6 with fail
      go_cut [109] (fun s109 wx => ∃ B : Bool, s109 = .bool B ∧ Hid (B = true ↔ (r.place < 0 ∨ 4 ≤ r.place ∨ r.try_ < 0 ∨ 9999 < r.try_ ∨ r.n < 0 ∨ 1000000 < r.n)) ∧ wx = W1)
      case first =>
        clear E1
        go_wp2_with fail
        all_goals (try simp only [beq_iff_eq, bne_iff_ne, beq_eq_false_iff_ne, bne_eq_false_iff_eq, ne_eq, Decidable.not_not, Int.natCast_inj, Bool.or_eq_true, Bool.and_eq_true, Bool.or_eq_false_iff, Bool.and_eq_false_iff, Bool.not_eq_true', Bool.not_eq_false', decide_eq_true_eq, decide_eq_false_iff_not, Bool.not_eq_true, Bool.not_eq_false] at *)
        all_goals go_meet
        all_goals exact ⟨_, rfl, by unfold Hid; simp; omega, rfl⟩
      case rest =>
        obtain ⟨B1, rfl, HB1, hwc⟩ := hcut
        rw [hwc]
        clear hwc
        cases B1 with
        | true =>
          have E2 : Hid (recCheck r = 3) := by rw [Hid, E1.out, if_pos (HB1.out.1 rfl)]
          clear E1
          go_wp2_with fail
          go_ret
          exact ⟨retI E2.out.symm, HF1.out⟩
        | false =>
          have E2 := Lib.hid (E1.out.trans (if_neg (fun e => absurd (HB1.out.2 e) (by simp))))
          obtain ⟨hd, hhd⟩ : ∃ hd, hd = hdCheck r.h := ⟨_, rfl⟩
          obtain ⟨cc, hcc⟩ : ∃ cc, cc = codeCheck r.h.bytes r.h.block r.s.id n := ⟨_, rfl⟩
          rw [← hhd, ← hcc] at E2
          (have Hhd := Lib.hid hhd; clear hhd; have Hcc := Lib.hid hcc; clear hcc)
          clear E1 HB1
          go_upto_region 8 with fail
          go_cut [111] (fun s111 wx => s111 = .bool bh ∧ wx = W1)
          case first =>
            clear E2
            repeat' (first | ((refine at_callv _ 104 _ (by rfl) ?_); (refine wpList_callv _ _ _ (by rfl) (by kernel_rfl) 100 #[.pointer (some ⟨p, 0, none⟩)] (by rfl) hcf #[.string ⟨#[104]⟩, .pointer (some ⟨p, 0, none⟩)] (by kernel_rfl) (has_any _ _ k 104 HK8.out HC1.out) ?_); rintro e w9 ⟨rfl, rfl⟩; refine ⟨_, congrArg (fun b => Ending.returned (.bool b)) UH.out, ?_⟩) | go_values | go_skip | go_guarded | go_step | go_upon | go_back)
            go_meet
            exact ⟨rfl, rfl⟩
          case rest =>
            obtain ⟨rfl, hwc⟩ := hcut
            rw [hwc]
            clear hwc
            go_upto_if 111 with fail
            go_cut [] (fun wx => Hid (Fr W1 wx) ∧ Hid (bh = true → hd = 0))
            case first =>
              cases bh with
              | false =>
                go_wp2_with fail
                go_meet
                exact ⟨Below.refl _ _, fun e => by cases e⟩
              | true =>
                go_wp2_with fail
                (with_reducible refine (noteHead_any _ _ hwh).mono ?_)
                rw [← Hhd.out]
                rintro e w2 ⟨rfl, hf2⟩
                have HF2 := Lib.hid hf2
                clear hf2
                by_cases h0 : hd = 0
                · have t0 : (hd != 0) = false := by simp [h0]
                  have H0 := Lib.hid h0
                  clear h0
                  go_wp2_with fail
                  go_meet
                  exact ⟨HF2.out, fun _ => H0.out⟩
                · have t0 : (hd != 0) = true := by simp [h0]
                  have H0 := Lib.hid h0
                  clear h0
                  go_wp2_with fail
                  go_ret
                  exact ⟨retI (by rw [E2.out, if_pos (by first | exact ⟨rfl, H0.out⟩ | exact ⟨trivial, H0.out⟩)]), HF1.out.trans HF2.out⟩
            case rest =>
              obtain ⟨HF2, HH⟩ := hcut
              obtain ⟨W2, rfl⟩ : ∃ W2, W2 = wc := ⟨_, rfl⟩
              have E3 := Lib.hid (E2.out.trans (if_neg (fun e => e.2 (HH.out e.1))))
              have hbx := blk_go HBX.out HF2.out
              have HC2 : Hid (W2.cell? ⟨p, 0, none⟩ = some (.int .i64 k)) := cell_of_heap hbx
              have HF3 : Hid (Fr w W2) := HF1.out.trans HF2.out
              clear bx0 bx1 bx2 bx3 bx4 bx5 bx6 bx7 bx8 bx9 bx10 bx11 bx12 HBX HF2 E2 HH
              (obtain ⟨bx0, bx1, bx2, bx3, bx4, bx5, bx6, bx7, bx8, bx9, bx10, bx11, bx12⟩ := box13_ hbx)
              clear hbx
              go_upto_region 12 with fail
              go_cut [119] (fun s119 wx => s119 = .bool bs ∧ wx = W2)
              case first =>
                clear E3
                repeat' (first | ((refine at_callv _ 115 _ (by rfl) ?_); (refine wpList_callv _ _ _ (by rfl) (by kernel_rfl) 100 #[.pointer (some ⟨p, 0, none⟩)] (by rfl) hcf #[.string ⟨#[115]⟩, .pointer (some ⟨p, 0, none⟩)] (by kernel_rfl) (has_any _ _ k 115 HK8.out HC2.out) ?_); rintro e w9 ⟨rfl, rfl⟩; refine ⟨_, congrArg (fun b => Ending.returned (.bool b)) US.out, ?_⟩) | go_values | go_skip | go_guarded | go_step | go_upon | go_back)
                go_meet
                exact ⟨rfl, rfl⟩
              case rest =>
                obtain ⟨rfl, hwc⟩ := hcut
                rw [hwc]
                clear hwc
                cases bs with
                | true =>
                  have E4 := Lib.hid (E3.out.trans (if_pos rfl))
                  go_wp2_with fail
                  (with_reducible refine (codeCheck_any _ _ _ _ _ _ _ wB wK).mono ?_)
                  rw [← Hcc.out]
                  rintro e w3 ⟨rfl, hf3⟩
                  have HF4 := Lib.hid hf3
                  clear hf3
                  go_wp2_with fail
                  go_ret
                  exact ⟨retI E4.out.symm, HF3.out.trans HF4.out⟩
                | false =>
                  have E4 := Lib.hid (E3.out.trans (if_neg (by simp)))
                  clear E3
                  go_upto_region 14 with fail
                  go_cut [137] (fun s137 wx => ∃ B : Bool, s137 = .bool B ∧ Hid (B = true ↔ (bc = true ∧ (n2 : Int) ≠ r.h.bytes)) ∧ wx = W2)
                  case first =>
                    clear E4
                    obtain ⟨b9, t9⟩ : ∃ b, (((n2 : Int) != r.h.bytes) = b) := ⟨_, rfl⟩
                    have T9 : Hid ((n2 : Int) ≠ r.h.bytes ↔ b9 = true) := by rw [← t9]; simp [Hid]
                    repeat' (first | ((refine at_callv _ 99 _ (by rfl) ?_); (refine wpList_callv _ _ _ (by rfl) (by kernel_rfl) 100 #[.pointer (some ⟨p, 0, none⟩)] (by rfl) hcf #[.string ⟨#[99]⟩, .pointer (some ⟨p, 0, none⟩)] (by kernel_rfl) (has_any _ _ k 99 HK8.out HC2.out) ?_); rintro e w9 ⟨rfl, rfl⟩; refine ⟨_, congrArg (fun b => Ending.returned (.bool b)) UC.out, ?_⟩) | go_values | go_skip | go_guarded | go_step | go_upon | go_back)
                    all_goals go_meet
                    all_goals exact ⟨_, rfl, by rw [Hid, T9.out]; first | (simp; done) | (simp [*]; done), rfl⟩
                  case rest =>
                    obtain ⟨B3, rfl, HB3, hwc⟩ := hcut
                    rw [hwc]
                    clear hwc
                    cases B3 with
                    | true =>
                      have E5 := Lib.hid (E4.out.trans (if_pos (HB3.out.1 rfl)))
                      go_wp2_with fail
                      go_ret
                      exact ⟨retI E5.out.symm, HF3.out⟩
                    | false =>
                      have E5 := Lib.hid (E4.out.trans (if_neg (fun e => absurd (HB3.out.2 e) (by simp))))
                      go_wp2_with fail
                      go_ret
                      exact ⟨retI E5.out.symm, HF3.out⟩
end Go.Proofs.YtmiaplgfbphfmaaGreatDoor
namespace Go.Proofs.YtmiaplgfbphfmaaGreatDoor
open Go.RowKit
attribute [local irreducible] wpList

set_option maxHeartbeats 2000000 in
theorem noteCheck_any (w : World) (r : Rc) (A : Option Addr) (n c : Nat) (A2 : Option Addr) (n2 c2 : Nat) (hw : r.wf) (hl : r.s.data.length = n) (hl2 : r.cargo.length = n2) :
    Calls Tryz.prog 64 #[.agg #[.int .i64 r.kind, .int .i64 r.place, .int .i64 r.n, .int .i64 r.try_, .int .i64 r.h.frm, .int .i64 r.h.seq, .int .i64 r.h.to, .int .i64 r.h.till, .int .i64 r.h.bytes, .int .i64 r.h.block, .int .i64 r.s.id, .slice A n c, .slice A2 n2 c2]] w fun e w' => e = .returned (.int .i64 (recCheck r)) ∧ Fr w w' := by
  by_cases hk : 1 ≤ r.kind ∧ r.kind ≤ 8
  · have := noteCheck_good w r r.kind rfl A n c A2 n2 c2 hw hl hl2 hk
    exact this
  · have E : Hid (recCheck r = 4) := by unfold recCheck Hid; rw [if_pos (by omega)]
    by_cases h1 : r.kind < 1
    · have t1 : decide (r.kind < 1) = true := by simp [h1]
      clear hk h1 hw hl hl2
      go_enter Tryz.func64, Tryz.ntmps64
      go_wp2_with fail
      go_ret
      exact ⟨retI E.out.symm, by (repeat' (first | exact Below.refl _ _ | refine below_drewN ?_ _ | refine Below.drew ?_ | refine frA ?_ _))⟩
    · have t1 : decide (r.kind < 1) = false := by simp; omega
      have t2 : decide (8 < r.kind) = true := by simp; omega
      clear hk h1 hw hl hl2
      go_enter Tryz.func64, Tryz.ntmps64
      go_wp2_with fail
      go_ret
      exact ⟨retI E.out.symm, by (repeat' (first | exact Below.refl _ _ | refine below_drewN ?_ _ | refine Below.drew ?_ | refine frA ?_ _))⟩
end Go.Proofs.YtmiaplgfbphfmaaGreatDoor
