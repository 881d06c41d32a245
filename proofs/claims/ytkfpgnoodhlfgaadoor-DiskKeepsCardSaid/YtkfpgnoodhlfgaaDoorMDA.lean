/- How long the texts of records are, told closer. No condition; no program in sight. -/
import Derived.Test.YtkfpgnoodhlfgaaDoorDCut
import Derived.Test.YtkfpgnoodhlfgaaDoorDiskP
import Derived.Test.YtkfpgnoodhlfgaaDoorNParse
import Derived.Deep.DeepCutAuto
import Derived.Deep.Cut
import Derived.Laws.BytesArg
import Derived.Test.YtkfpgnoodhlfgaaDoorOwn
import Derived.Laws.AppendOwnNone
import Derived.Lib.AppendZerosOnto
import Derived.Test.YtkfpgnoodhlfgaaDoorHeld
import Derived.Lib.AppendStr
import Derived.Test.YtkfpgnoodhlfgaaDoorTextB
set_option linter.unusedSimpArgs false
set_option linter.unusedVariables false
namespace Go.Proofs.YtkfpgnoodhlfgaaDoor
open Go.RowKit
attribute [local irreducible] wpList

theorem infoRec : (Tryd.prog.info? 31).map (fun i => (i.zero, i.size, i.bytes)) = some (some (.agg #[.int .i64 0, .int .i64 0, .int .i64 0, .int .i64 0, .int .i64 0, .int .i64 0, .int .i64 0, .int .i64 0, .int .i64 0, .int .i64 0, .int .i64 0, .slice none 0 0, .slice none 0 0]), 13, 136) := by kernel_rfl
def strN : Value → Nat
  | .string s => s.size
  | _ => 0
theorem linesGo_cut (most : Nat) (acc : List Rc) (n : Nat) (a b : List UInt8) : linesGo most acc n (a :: pieces 10 b) = if (parseF a).2 ≠ 0 then (acc, n, (parseF a).2) else if acc.length = most then (acc, n, 2) else linesGo most (acc ++ [(parseF a).1]) (n + (a.length + 1)) (pieces 10 b) := by
  cases h : pieces 10 b with
  | nil => exact absurd h (pieces_ne 10 b)
  | cons x ls => rw [linesGo]
/-- note.Parse, its record told by its cells, in new blocks. -/
theorem parse_outN {w w' : World} {x : Rc} {xe : Int} {e : Ending} (h : RPost w (x, xe) e w') : ∃ B n c B2 n2 c2, e = .returned (.tuple #[.agg #[.int .i64 x.kind, .int .i64 x.place, .int .i64 x.n, .int .i64 x.try_, .int .i64 x.h.frm, .int .i64 x.h.seq, .int .i64 x.h.to, .int .i64 x.h.till, .int .i64 x.h.bytes, .int .i64 x.h.block, .int .i64 x.s.id, .slice B n c, .slice B2 n2 c2], .int .i64 xe]) ∧ x.wf ∧ Byt w' (NW w.heap.size w'.heap.size) B n c x.s.data ∧ Byt w' (NW w.heap.size w'.heap.size) B2 n2 c2 x.cargo ∧ Fr w w' := h
theorem eRc_cells {w : World} {S : Nat → Prop} {x : Rc} {B : Option Addr} {n c : Nat} {B2 : Option Addr} {n2 c2 : Nat} (hw : x.wf) (h1 : Byt w S B n c x.s.data) (h2 : Byt w S B2 n2 c2 x.cargo) : eRc w S (fun j => ([.int .i64 x.kind, .int .i64 x.place, .int .i64 x.n, .int .i64 x.try_, .int .i64 x.h.frm, .int .i64 x.h.seq, .int .i64 x.h.to, .int .i64 x.h.till, .int .i64 x.h.bytes, .int .i64 x.h.block, .int .i64 x.s.id, .slice B n c, .slice B2 n2 c2] : List Value)[j]?) x :=
  eRc_iff.2 ⟨B, n, c, B2, n2, c2, ⟨rfl, rfl, rfl, rfl, rfl, rfl, rfl, rfl, rfl, rfl, rfl, rfl, rfl⟩, hw, h1, h2⟩
/-- A reading off the blocks from N on. -/
def eNew {α : Type} (N : Nat) (r : ERd α) : ERd α := fun w S f x => r w (fun b => S b ∧ N ≤ b) f x
theorem Stable.newer {α : Type} {size : Nat} {r : ERd α} (s : Stable size r) (N : Nat) : Stable size (eNew N r) :=
  ⟨fun hk h => s.keep (fun p hp => hk p hp.1) h, fun hB h => s.more (fun b hb => ⟨hB b hb.1, hb.2⟩) h, fun hf h => s.mono hf h⟩
theorem Full.newer {α : Type} {size : Nat} {r : ERd α} (F : Full size r) (N : Nat) : Full size (eNew N r) := fun h j hj => F h j hj
/-- What disk.lines leaves. -/
def LPost (w : World) (X : List Rc × Nat × Int) (e : Ending) (w' : World) : Prop := ∃ v, e = .returned (.tuple #[v, .int .i64 X.2.1, .int .i64 X.2.2]) ∧ Own 13 (eNew w.heap.size eRc) w' w.heap.size 31 v X.1 ∧ Fr w w'
set_option maxRecDepth 100000 in
set_option maxHeartbeats 16000000 in
theorem lines_any (w : World) (v : Vars w) (s : List UInt8) (hs : s.length ≤ 60000) (most : Nat) (hm : most ≤ 200) :
    Calls Tryd.prog 51 #[sV s, .int .i64 most] w (LPost w (linesF most s)) := by
  obtain ⟨X, hX⟩ : ∃ X, X = linesF most s := ⟨_, rfl⟩
  rw [← hX]
  have HX0 : Hid (X = linesGo most [] (s.length - s.length) (pieces 10 s)) := by rw [Hid, hX, Nat.sub_self]; rfl
  have HV := Lib.hid v
  clear v hX
  go_enter Tryd.func51, Tryd.ntmps51
  go_wp2_with fail
  go_loopw [0, 7] (fun s0 s7 wr => ∃ (S : List UInt8) (acc : List Rc), s0 = sV S ∧ Hid (Own 13 (eNew w.heap.size eRc) wr w.heap.size 31 s7 acc) ∧ Hid (Fr w wr) ∧ S.length ≤ s.length ∧ acc.length ≤ most ∧ Hid (X = linesGo most acc (s.length - S.length) (pieces 10 S))) (fun i _ _ => strN i)
  case atStart => exact ⟨s, [], rfl, Own.nil, Below.refl _ _, Nat.le_refl _, Nat.zero_le _, HX0⟩
  case round =>
    obtain ⟨S, acc, rfl, HO, HF, hSl, hal, HX⟩ := hrel
    clear HX0
    obtain ⟨A, c, rfl, ⟨hac, hcm⟩, _⟩ := HO.out.slC (sRc.newer _) (by decide)
    have hsub : ((s.length : Int) - (S.length : Int)) = ((s.length - S.length : Nat) : Int) := by omega
    by_cases hS : S = []
    · have t1 : S.isEmpty = true := by simp [hS]
      have hx : Hid (X = (acc, s.length, 0)) := HX.out.trans (by rw [hS]; simp [pieces, linesGo])
      clear hS HX hsub
      go_wp2_with fail
      refine bodyPost_ret (v := .tuple #[.slice A acc.length c, .int .i64 (s.length : Int), .int .i64 0]) ?_ rfl ?_
      · simp [results, Tryd.results51, go_sem]
      · rw [hx.out]
        exact ⟨_, rfl, HO.out, HF.out⟩
    have t1 : S.isEmpty = false := by simp [hS]
    go_wp2_with fail
    (with_reducible refine (cut_any wr (HV.out.go HF.out) 10 S (by omega)).mono ?_)
    rintro e w4 ⟨rfl, hf4⟩
    have HF4 : Hid (Fr w w4) := HF.out.trans hf4
    have HO4 : Hid (Own 13 (eNew w.heap.size eRc) w4 w.heap.size 31 (.slice A acc.length c) acc) := HO.out.fr (sRc.newer _) hf4
    clear hf4 HF HO
    rcases cut_cases 10 S with ⟨_, hcut, hpc⟩ | ⟨a, b, hSab, _, hcut, hpc⟩
    · have hx : Hid (X = (acc, s.length - S.length, 9)) := HX.out.trans (by rw [hpc, linesGo, if_neg hS])
      rw [hcut]
      clear hcut hpc hS HX
      go_wp2_with fail
      refine bodyPost_ret (v := .tuple #[.slice A acc.length c, .int .i64 ((s.length - S.length : Nat) : Int), .int .i64 9]) ?_ rfl ?_
      · simp [results, Tryd.results51, go_sem]
      · rw [hx.out]
        exact ⟨_, rfl, HO4.out, HF4.out⟩
    · obtain ⟨x, xe, hps⟩ : ∃ x xe, parseF a = (x, xe) := ⟨_, _, rfl⟩
      have hSl2 : S.length = a.length + (b.length + 1) := by rw [hSab]; simp
      have hb60 : a.length ≤ 60000 := by omega
      have HXB : Hid (X = if xe ≠ 0 then (acc, s.length - S.length, xe) else if acc.length = most then (acc, s.length - S.length, 2) else linesGo most (acc ++ [x]) (s.length - b.length) (pieces 10 b)) := by
        rw [Hid, HX.out, hpc, linesGo_cut, hps, show s.length - S.length + (a.length + 1) = s.length - b.length by omega]
      have CP : Hid (Calls Tryd.prog 9 #[sV a] w4 (RPost w4 (x, xe))) := by rw [← hps]; exact noteParse_any w4 (HV.out.go HF4.out) a (by unfold lim; omega)
      rw [hcut]
      have HSL2 := Lib.hid hSl2
      clear hcut hpc hS HX hps hSab hb60 hSl2
      go_wp2_with fail
      (with_reducible refine (CP.out).mono ?_)
      rintro e w5 h5
      obtain ⟨D, n, dc, D2, n2, dc2, rfl, hwx, hd, hd2, hf5⟩ := parse_outN h5
      have HF5 : Hid (Fr w w5) := HF4.out.trans hf5
      have HO5 : Hid (Own 13 (eNew w.heap.size eRc) w5 w.heap.size 31 (.slice A acc.length c) acc) := HO4.out.fr (sRc.newer _) hf5
      have HD := Lib.hid hd
      have HD2 := Lib.hid hd2
      have HWX := Lib.hid hwx
      have h4w : w.heap.size ≤ w4.heap.size := HF4.out.size
      have HFAR : Hid (∀ k, NW w4.heap.size w5.heap.size k → k < w5.heap.size ∧ (Value.slice A acc.length c).ownBlock ≠ some k ∧ w.heap.size ≤ k) := by
        intro k hk
        refine ⟨hk.2, fun e => ?_, Nat.le_trans h4w hk.1⟩
        obtain ⟨cs, ho, _⟩ := HO4.out
        have := (ho.lt k e).2
        have := hk.1
        omega
      clear h5 hwx hd hd2 hf5 CP HF4 HO4
      go_upto_region 8 with fail
      obtain ⟨y, hy⟩ : ∃ y, y = w5.heap.size := ⟨_, rfl⟩
      obtain ⟨W6, hW6⟩ : ∃ W6, W6 = w5.alloc (.cells #[.int .i64 x.kind, .int .i64 x.place, .int .i64 x.n, .int .i64 x.try_, .int .i64 x.h.frm, .int .i64 x.h.seq, .int .i64 x.h.to, .int .i64 x.h.till, .int .i64 x.h.bytes, .int .i64 x.h.block, .int .i64 x.s.id, .slice D n dc, .slice D2 n2 dc2] 31) := ⟨_, rfl⟩
      rw [← hW6, ← hy]
      have hy6 : W6.heap[y]? = some (.cells #[.int .i64 x.kind, .int .i64 x.place, .int .i64 x.n, .int .i64 x.try_, .int .i64 x.h.frm, .int .i64 x.h.seq, .int .i64 x.h.to, .int .i64 x.h.till, .int .i64 x.h.bytes, .int .i64 x.h.block, .int .i64 x.s.id, .slice D n dc, .slice D2 n2 dc2] 31 (0, 0)) := by rw [hW6]; exact heap_new hy
      have hf6 : Fr w5 W6 := by rw [hW6]; exact frAlloc _ _
      have HF6 : Hid (Fr w W6) := HF5.out.trans hf6
      have HF56 := Lib.hid hf6
      have HO6 : Hid (Own 13 (eNew w.heap.size eRc) W6 w.heap.size 31 (.slice A acc.length c) acc) := HO5.out.fr (sRc.newer _) hf6
      clear hy hW6 hf6 HF5 HO5
      by_cases hxe : xe = 0
      case neg =>
        have t2 : (xe != 0) = true := by simp [hxe]
        have hx : Hid (X = (acc, s.length - S.length, xe)) := HXB.out.trans (if_pos hxe)
        clear hxe HXB hy6
        go_wp2_with fail
        refine bodyPost_ret (v := .tuple #[.slice A acc.length c, .int .i64 ((s.length - S.length : Nat) : Int), .int .i64 xe]) ?_ rfl ?_
        · simp [results, Tryd.results51, go_sem]
        · rw [hx.out]
          exact ⟨_, rfl, HO6.out, HF6.out⟩
      case pos =>
      have t2 : (xe != 0) = false := by simp [hxe]
      have HXC := Lib.hid (HXB.out.trans (if_neg (fun h => h hxe)))
      clear hxe HXB
      by_cases hfull : acc.length = most
      case pos =>
        have t3 : ((acc.length : Int) == (most : Int)) = true := by simp only [beq_iff_eq]; omega
        have hx : Hid (X = (acc, s.length - S.length, 2)) := HXC.out.trans (if_pos hfull)
        clear hfull HXC hy6
        go_wp2_with fail
        refine bodyPost_ret (v := .tuple #[.slice A acc.length c, .int .i64 ((s.length - S.length : Nat) : Int), .int .i64 2]) ?_ rfl ?_
        · simp [results, Tryd.results51, go_sem]
        · rw [hx.out]
          exact ⟨_, rfl, HO6.out, HF6.out⟩
      case neg =>
      have t3 : ((acc.length : Int) == (most : Int)) = false := by simp only [beq_eq_false_iff_ne]; omega
      have hx : Hid (X = linesGo most (acc ++ [x]) (s.length - b.length) (pieces 10 b)) := HXC.out.trans (if_neg hfull)
      have hrc : Hid (eNew w.heap.size eRc W6 (fun b => b < W6.heap.size ∧ (Value.slice A acc.length c).ownBlock ≠ some b) (fun j => ([.int .i64 x.kind, .int .i64 x.place, .int .i64 x.n, .int .i64 x.try_, .int .i64 x.h.frm, .int .i64 x.h.seq, .int .i64 x.h.to, .int .i64 x.h.till, .int .i64 x.h.bytes, .int .i64 x.h.block, .int .i64 x.s.id, .slice D n dc, .slice D2 n2 dc2] : List Value)[j]?) x) := by
        have hS6 := HF56.out.size
        have hk : ∀ {B : Option Addr} {n c' : Nat} {l : List UInt8}, Byt w5 (NW w4.heap.size w5.heap.size) B n c' l → Byt W6 (fun b => (b < W6.heap.size ∧ (Value.slice A acc.length c).ownBlock ≠ some b) ∧ w.heap.size ≤ b) B n c' l := fun h =>
          ⟨h.1, (h.2.keep sByte fun p hp => HF56.out.cell hp.2).more sByte fun k hk => ⟨⟨Nat.lt_of_lt_of_le (HFAR.out k hk).1 hS6, (HFAR.out k hk).2.1⟩, (HFAR.out k hk).2.2⟩⟩
        exact eRc_cells HWX.out (hk HD.out) (hk HD2.out)
      have hLm : acc.length + 1 ≤ maxLen := by unfold maxLen; omega
      have hLs : (acc.length + 1) * 136 ≤ lim := by unfold lim; omega
      have hbb := HF6.out.size
      have hone : Hid (∀ u ∈ ([.int .i64 x.kind, .int .i64 x.place, .int .i64 x.n, .int .i64 x.try_, .int .i64 x.h.frm, .int .i64 x.h.seq, .int .i64 x.h.to, .int .i64 x.h.till, .int .i64 x.h.bytes, .int .i64 x.h.block, .int .i64 x.s.id, .slice D n dc, .slice D2 n2 dc2] : List Value), u.oneCell' = true) := by simp [Hid, Value.oneCell']
      have hal2 : acc.length + 1 ≤ most := by omega
      (obtain ⟨by0, by1, by2, by3, by4, by5, by6, by7, by8, by9, by10, by11, by12⟩ := box13_ hy6)
      clear hfull HXC hy6 HD HD2 HWX HFAR HF56
      go_wp2_with (at_builtin; refine wpList_app1 rfl _ _ 43 rfl w.heap.size 31 (.agg #[.int .i64 0, .int .i64 0, .int .i64 0, .int .i64 0, .int .i64 0, .int .i64 0, .int .i64 0, .int .i64 0, .int .i64 0, .int .i64 0, .int .i64 0, .slice none 0 0, .slice none 0 0]) 136 Tryd.underlying43 infoRec rfl (by decide) (sRc.newer _) W6 (frAlloc _ _) (.slice A acc.length c) acc rfl HO6.out W6.heap.size [.int .i64 x.kind, .int .i64 x.place, .int .i64 x.n, .int .i64 x.try_, .int .i64 x.h.frm, .int .i64 x.h.seq, .int .i64 x.h.to, .int .i64 x.h.till, .int .i64 x.h.bytes, .int .i64 x.h.block, .int .i64 x.s.id, .slice D n dc, .slice D2 n2 dc2] 31 (0, 0) rfl (heap_new rfl) rfl hone.out x hrc.out hLm hLs w.heap.size w HF6.out (Nat.le_refl _) hbb ?_)
      intro v' w7 HO7 HF7
      go_wp2_with fail
      go_roundw
      case rel => exact ⟨b, acc ++ [x], rfl, HO7, HF7, by have := HSL2.out; omega, by simpa using hal2, hx⟩
      case measure =>
        have := HSL2.out
        simp only [strN, sV_size]
        omega
end Go.Proofs.YtkfpgnoodhlfgaaDoor
namespace Go.Proofs.YtkfpgnoodhlfgaaDoor
open Go.RowKit
attribute [local irreducible] wpList

theorem foldl_bytes : ∀ (l : List UInt8) (s : ByteArray), (l.map fun b => (b.toNat : Int)).foldl (fun r n => r.push (UInt8.ofNat n.toNat)) s = ⟨s.data ++ l.toArray⟩
  | [], s => by simp
  | b :: l, s => by
    rw [List.map_cons, List.foldl_cons, foldl_bytes l]
    simp [ByteArray.push]
/-- Bytes as a string. -/
theorem conv_bytes (W : World) {S : Nat → Prop} {A : Option Addr} {n : Nat} (c : Nat) {l : List UInt8} (h : Sl 1 eByte W S A n l) : (convert 26 9 (.slice A n c)).run Tryd.prog W = .ok (sV l) W := by
  rw [run_convert_bytes_string W _ _ _ A n c Tryd.underlying26 Tryd.underlying5 Tryd.underlying9]
  cases A with
  | none =>
    have h0 : n = 0 := by
      rcases Nat.eq_zero_or_pos n with h0 | h0
      · exact h0
      · obtain ⟨_, e, _⟩ := h.2 h0; cases e
    have hl : l = [] := List.eq_nil_of_length_eq_zero (h.1.trans h0)
    subst hl
    simp [Conv.bytesToString]
    rfl
  | some ad =>
    have hc : ∀ j v, (l.map fun b => Value.int .u8 (b.toNat : Int))[j]? = some v → W.cell? (ad.add j) = some v := by
      intro j v hj
      rw [List.getElem?_map] at hj
      cases hb : l[j]? with
      | none => rw [hb] at hj; cases hj
      | some b =>
        rw [hb] at hj
        have hn : 0 < n := by have := (List.getElem?_eq_some_iff.1 hb).1; have := h.1; omega
        obtain ⟨ad', e, _, hr⟩ := h.2 hn
        injection e with e
        subst e
        have := hr j b hb
        simp only [eByte, Nat.mul_one, Nat.add_zero] at this
        rw [this]
        simpa using hj
    have hl := run_loadCells_list (P := Tryd.prog) W ad (l.map fun b => Value.int .u8 (b.toNat : Int)) hc
    rw [List.length_map, h.1] at hl
    have := run_bytesToString (P := Tryd.prog) W ad n c (l.map fun b => (b.toNat : Int)) (by rw [List.map_map]; exact hl)
    rw [this, foldl_bytes]
    have e : ByteArray.empty.data ++ l.toArray = l.toArray := by simp [ByteArray.empty, ByteArray.emptyWithCapacity]; rfl
    rw [e]
set_option maxRecDepth 100000 in
set_option maxHeartbeats 8000000 in
theorem diskCheck_any (w : World) (v : Vars w) (d : Dk) (A : Option Addr) (n c : Nat) (B : Option Addr) (m e : Nat) (hA : Byt w (LT w.heap.size) A n c d.safe) (hB : Byt w (LT w.heap.size) B m e d.wait) :
    Calls Tryd.prog 48 #[.agg #[.slice A n c, .slice B m e]] w fun r w' => r = .returned (.int .i64 (diskCheck d)) ∧ Fr w w' := by
  obtain ⟨X, hX⟩ : ∃ X, X = diskCheck d := ⟨_, rfl⟩
  rw [← hX]
  have hl := hA.2.1
  have hl2 := hB.2.1
  have E := Lib.hid (diskCheck.eq_1 d)
  rw [hl, hl2, ← hX] at E
  obtain ⟨W1, hW1⟩ : ∃ W1, W1 = w.alloc (.cells #[.slice A n c, .slice B m e] 45) := ⟨_, rfl⟩
  obtain ⟨p, hp⟩ : ∃ p, p = w.heap.size := ⟨_, rfl⟩
  have hp1 : W1.heap[p]? = some (.cells #[.slice A n c, .slice B m e] 45 (0, 0)) := by rw [hW1]; exact heap_new hp
  have HF1 : Hid (Fr w W1) := by rw [hW1]; exact frAlloc _ _
  have hcv := conv_bytes W1 c (hA.2.go sByte HF1.out)
  have HV := Lib.hid v
  have HL := Lib.hid hl
  (obtain ⟨bp0, bp1⟩ := box2_ hp1)
  clear hp1 hA hB hl hl2 hX v
  go_enter Tryd.func48, Tryd.ntmps48
  go_upto_region 1 with fail
  rw [← hW1, ← hp]
  clear hW1 hp
  by_cases h1 : 60000 < n
  · have t1 : decide ((60000 : Int) < (n : Int)) = true := by simp; omega
    have hx : Hid (X = 2) := E.out.trans (if_pos (.inl h1))
    clear h1 hcv
    go_wp2_with fail
    go_ret
    exact ⟨retI hx.out.symm, HF1.out⟩
  have t1 : decide ((60000 : Int) < (n : Int)) = false := by simp; omega
  by_cases h2 : 60000 < n + m
  · have t2 : decide ((60000 : Int) - (n : Int) < (m : Int)) = true := by simp; omega
    have hx : Hid (X = 2) := E.out.trans (if_pos (.inr h2))
    have hw : IntKind.i64.wrap ((60000 : Int) - (n : Int)) = (60000 : Int) - (n : Int) := by rw [IntKind.wrap_i64]; omega
    clear h1 h2 hcv
    go_wp2_with fail
    go_ret
    exact ⟨retI hx.out.symm, HF1.out⟩
  have t2 : decide ((60000 : Int) - (n : Int) < (m : Int)) = false := by simp; omega
  have hw : IntKind.i64.wrap ((60000 : Int) - (n : Int)) = (60000 : Int) - (n : Int) := by rw [IntKind.wrap_i64]; omega
  obtain ⟨Y, hY⟩ : ∃ Y, Y = linesF 200 d.safe := ⟨_, rfl⟩
  have hx : Hid (X = Y.2.2) := E.out.trans (by rw [if_neg (by omega), hY])
  have LN : Hid (Calls Tryd.prog 51 #[sV d.safe, .int .i64 200] W1 (LPost W1 Y)) := by rw [hY]; exact lines_any W1 (HV.out.go HF1.out) d.safe (by rw [HL.out]; omega) 200 (by omega)
  clear hY E h1 h2
  go_wp2_with fail
  (with_reducible refine (LN.out).mono ?_)
  rintro r w2 ⟨u, rfl, _, hf2⟩
  have HF2 : Hid (Fr w w2) := HF1.out.trans hf2
  clear hf2 LN
  go_wp2_with fail
  go_ret
  exact ⟨retI hx.out.symm, HF2.out⟩
end Go.Proofs.YtkfpgnoodhlfgaaDoor
namespace Go.Proofs.YtkfpgnoodhlfgaaDoor
open Go.RowKit

/-- A slice of no element, made anew, is the call's own. -/
theorem Own.empty {α : Type} {size : Nat} {r : ERd α} {w : World} {base : Nat} {e : TypeId} (hb : base ≤ w.heap.size) : Own size r (w.alloc (.cells #[] e)) base e (.slice (some ⟨w.heap.size, 0, none⟩) 0 0) ([] : List α) :=
  ⟨[], World.ownsRow_lit w #[] 0 hb (by unfold maxLen; omega) (by simp), fun i x h => by simp at h⟩


set_option maxHeartbeats 400000 in
theorem cloneBytes_any (w : World) (A : Option Addr) (n c : Nat) (l : List UInt8) (h : Sl 1 eByte w (LT w.heap.size) A n l) (hm : n * 1 ≤ lim) :
    Calls Tryd.prog 49 #[.slice A n c] w fun e w' => ∃ v, e = .returned v ∧ Own 1 eByte w' w.heap.size 5 v l ∧ Fr w w' := by
  have hm2 := hm
  unfold lim at hm2
  cases A with
  | none =>
    have hn : n = 0 := by
      rcases Nat.eq_zero_or_pos n with h0 | h0
      · exact h0
      · obtain ⟨ad, e, _⟩ := h.2 h0; cases e
    have hl : l = [] := List.eq_nil_of_length_eq_zero (by rw [h.1]; exact hn)
    subst hl
    subst hn
    have hnil := fun (W : World) => Lib.run_eql_slice_nil (P := Tryd.prog) W 26 _ Option.none 0 c 0 0 Tryd.underlying26
    clear h
    go_enter Tryd.func49, Tryd.ntmps49
    go_wp2_with fail
    go_ret
    exact ⟨_, rfl, Own.nil, Below.refl _ _⟩
  | some ad =>
    have hnil := fun (W : World) => Lib.run_eql_slice_nil (P := Tryd.prog) W 26 _ (some ad) n c 0 0 Tryd.underlying26
    simp only [Option.isNone_some] at hnil
    obtain ⟨cs, hcl, hcc, hc1, hcr⟩ : ∃ cs : List Value, cs.length = n * 1 ∧ (∀ j u, cs[j]? = some u → w.cell? (ad.add j) = some u ∧ ad.block < w.heap.size) ∧ (∀ u ∈ cs, u.oneCell' = true) ∧ ∀ i x, l[i]? = some x → eByte w (LT w.heap.size) (fun j => cs[i * 1 + j]?) x := by
      rcases Nat.eq_zero_or_pos n with h0 | h0
      · have hl : l = [] := List.eq_nil_of_length_eq_zero (by rw [h.1]; exact h0)
        exact ⟨[], by simp [h0], fun j u hu => by simp at hu, fun u hu => by simp at hu, fun i x hx => by simp [hl] at hx⟩
      · obtain ⟨ad', e, hE⟩ := h.els h0
        injection e with e
        subst e
        obtain ⟨cs, k1, k2, k3, k4⟩ := hE.cells fByte sByte (by decide)
        exact ⟨cs, k1, fun j u hu => ⟨k2 j u hu, hE.2.1⟩, k3, k4⟩
    have hll := h.1
    (have H := Lib.hid h; clear h; have Hcl := Lib.hid hcl; clear hcl; have Hcc := Lib.hid hcc; clear hcc; have Hc1 := Lib.hid hc1; clear hc1; have Hcr := Lib.hid hcr; clear hcr; have Hll := Lib.hid hll; clear hll)
    go_enter Tryd.func49, Tryd.ntmps49
    go_wp2_with (at_builtin; refine wpList_apps _ rfl _ _ 26 rfl w.heap.size 5 _ _ _ Tryd.underlying26 infoByte rfl (by decide) sByte _ ([] : List UInt8) rfl (Own.empty (Nat.le_refl _)) ad n c cs rfl Hcl.out ?c1 Hc1.out l Hll.out ?c3 ?c4 ?c5 ?c6 ?_)
    case c1 => intro j u hu; obtain ⟨k1, k2⟩ := Hcc.out j u hu; exact ((frAlloc w _).cell (by rw [block_of_add]; exact k2)).trans k1
    case c3 =>
      intro i x hx
      refine (sByte).more (S := LT w.heap.size) (fun b hb => ?_) ((sByte).keep (fun p hp => (frAlloc w _).cell hp) (Hcr.out i x hx))
      have hb' : b < w.heap.size := hb
      refine ⟨by simp; omega, ?_⟩
      intro e
      have e2 : some w.heap.size = some b := e
      have : w.heap.size = b := by injection e2
      omega
    case c4 => unfold maxLen; simp; omega
    case c5 => unfold lim; simp; omega
    case c6 => simp
    · intro v' w1 hown hg hge
      have HO : Hid (Own 1 eByte w1 w.heap.size 5 v' l) := hown
      have HF : Hid (Fr w w1) := (frAlloc w _).grown hg (by simp) hge
      clear hown hg hge
      go_wp2_with fail
      go_ret
      exact ⟨v', rfl, HO.out, HF.out⟩
end Go.Proofs.YtkfpgnoodhlfgaaDoor
namespace Go.Proofs.YtkfpgnoodhlfgaaDoor
set_option maxRecDepth 100000
open Go.RowKit

/-- append of nothing, from nil. -/
theorem wpList_apps_nil {α : Type} {r : ERd α} {size : Nat} {P : Program} (w : World) {ops : Array Oper} {rest : List Oper} {o : Oper} {a : Act} {Q : Exit → Act → World → Prop} (hgd : o.guard = none) (s x : Operand) (t : TypeId)
    (ho : o.op = .call { callee := .builtin .append, args := #[s, x], argTypes := #[t, t] })
    (base : Nat) (e : TypeId) (i : TypeInfo) (ht : P.underlying t = some (.slice e)) (hi : P.info? e = some i)
    (v : Value) (xs : List α) (c : Nat) (hs : a.eval s = v) (hown : Own size r w base e v xs) (hx : a.eval x = .slice none 0 c)
    (h : wpList P ops Q rest (a.put o.dst v) w) : wpList P ops Q (o :: rest) a w := by
  obtain ⟨cs, hrow, _⟩ := hown
  refine wpList_plain hgd fun K hK => ?_
  have hrun : (Builtin.append_ #[t, t] o.type #[v, .slice none 0 c]).run P w = .ok v w := by
    rcases hrow.2 with ⟨rfl, _⟩ | ⟨g, cap, cur, rfl, _, _, hnc, _⟩
    · simp [Builtin.append_, run_underlying ht, sizeOf, typeInfo, hi, Builtin.lenOf, Builtin.firstCells]
    · simp [Builtin.append_, run_underlying ht, sizeOf, typeInfo, hi, Builtin.lenOf, Builtin.firstCells, hnc, storeCells]
  unfold Oper.wp
  simp [execOp, ho, resolve, invoke, builtin, hs, hx, hrun, Result.andThen]
  exact hK _ _ h

/-- How many in all. -/
def lens {α : Type} (ls : List (List α)) : Nat := (ls.map List.length).sum
theorem lens_take_succ {α : Type} {ls : List (List α)} {k : Nat} {l : List α} (h : ls[k]? = some l) : lens (ls.take (k + 1)) = lens (ls.take k) + l.length := by
  unfold lens
  rw [take_snoc' h, List.map_append, List.sum_append]; simp
theorem lens_take_le {α : Type} (ls : List (List α)) (k : Nat) : lens (ls.take k) ≤ lens ls := by
  unfold lens
  have : ls = ls.take k ++ ls.drop k := (List.take_append_drop k ls).symm
  conv => rhs; rw [this, List.map_append, List.sum_append]
  omega
theorem length_flatten_lens {α : Type} (ls : List (List α)) : ls.flatten.length = lens ls := by unfold lens; rw [List.length_flatten]

theorem Els.slC {α : Type} {size bytes : Nat} {r : ERd α} {w : World} {S : Nat → Prop} {n k : Nat} {ad : Addr} {ls : List (List α)} (h : Els 1 (eSl size bytes r) w S ad n ls) (hk : k < n) :
    ∃ A' n' c' l, ls[k]? = some l ∧ w.cell? (ad.add k) = some (.slice A' n' c') ∧ n' * bytes ≤ lim ∧ n' ≤ c' ∧ c' ≤ maxLen ∧ Sl size r w S A' n' l := by
  obtain ⟨x, hx, A', n', c', h0, h1, h2⟩ := h.at_ hk
  exact ⟨A', n', c', x, hx, by simpa using h0, h1.1, h1.2.1, h1.2.2, h2⟩


end Go.Proofs.YtkfpgnoodhlfgaaDoor
namespace Go.Proofs.YtkfpgnoodhlfgaaDoor
set_option maxRecDepth 100000
open Go.RowKit

/-- Two that may come first. -/
theorem held_two {P : Program} {ops : Array Oper} {Q : Exit → Act → World → Prop} {md : Region.Mode} {S : World → Prop} {i j : Nat} {oi oj : Oper} {ri rj : List Oper} {fuel : Nat} {listed : Array Bool} {a : Act} {w : World} (hi : ops.toList.drop i = oi :: ri) (hj : ops.toList.drop j = oj :: rj) (hr : Region.ready md ops listed = [i, j])
    (h : ∀ K' : Act → World → Prop, Shut (∀ a w, S w → (S w → wpAnyH P md ops Q S fuel (listed.setIfInBounds i true) a w) → K' a w) → if Region.wanted oi (yielded ops a.tmps) = true then Oper.wp P oi a w K' Q else K' (a.put oi.dst undef) w)
    (k : ∀ K' : Act → World → Prop, Shut (∀ a w, S w → (S w → wpAnyH P md ops Q S fuel (listed.setIfInBounds j true) a w) → K' a w) → if Region.wanted oj (yielded ops a.tmps) = true then Oper.wp P oj a w K' Q else K' (a.put oj.dst undef) w) : wpAnyH P md ops Q S (fuel + 1) listed a w :=
  wpAnyH_ready hr (by simp) (AllReadyH.cons (held_at hi) h (AllReadyH.cons (held_at hj) k AllReadyH.nil))
theorem step_appStr {P : Program} {w : World} {ops : Array Oper} {o : Oper} {a : Act} {K : Act → World → Prop} {Q : Exit → Act → World → Prop} {E : Prop} (hgd : o.guard = none) (s x : Operand) (t u : TypeId)
    (ho : o.op = .call { callee := .builtin .append, args := #[s, x], argTypes := #[t, u] })
    (base e : TypeId) (ht : P.underlying t = some (.slice e)) (hu : P.underlying u = some .string) (hi : (P.info? e).map (fun i => (i.zero, i.size, i.bytes)) = some (some (bV 0), 1, 1))
    (v : Value) (xs : List UInt8) (hs : a.eval s = v) (hown : Own 1 eByte w base e v xs) (str : List UInt8) (hx : a.eval x = sV str)
    (h63 : xs.length + str.length ≤ lim) (hbase : base ≤ w.heap.size) (B : Nat) (A0 : World) (hbel : Below B A0 w) (hB : B ≤ base)
    (h : ∀ v' w', Hid (Own 1 eByte w' base e v' (xs ++ str)) → Hid (Below B A0 w') → Hid (∀ g o, w.heap[g]? = some o → v.ownBlock ≠ some g → w'.heap[g]? = some o) → K (a.put o.dst v') w') :
    if Region.wanted o (yielded ops a.tmps) = true then Oper.wp P o a w K Q else E := by
  have hw : Region.wanted o (yielded ops a.tmps) = true := by simp [Region.wanted, hgd]
  rw [if_pos hw]
  obtain ⟨i, hi1, hi2⟩ := Option.map_eq_some_iff.1 hi
  simp only [Prod.mk.injEq] at hi2
  obtain ⟨hz0, hz1, hz2⟩ := hi2
  obtain ⟨cs, hrow, hr⟩ := hown
  have hsz := sV_size str
  unfold lim at h63
  obtain ⟨v', w', hrun, ho2, hg, _⟩ := Lib.run_append_own_string (P := P) w base t u o.type e i ht hu hi1 hz0 hz1 hz2 v xs.length cs hrow ⟨str.toArray⟩ (by rw [hsz]; unfold maxLen; omega) (by rw [hsz]; omega) hbase
  unfold Oper.wp execOp
  simp only [ho, resolve, invoke, builtin, Sem.run_bind, Sem.run_pure, Result.andThen_ok, List.map_toArray, List.map_cons, List.map_nil, hs, hx, hrun]
  have hlen : cs.length = xs.length := by simpa using hrow.1
  refine h v' w' ⟨cs ++ Lib.strCells ⟨str.toArray⟩, by rw [List.length_append, ← hsz]; exact ho2, fun i y hy => ?_⟩ ((hbel.grown hg (Nat.le_trans hB hbase) fun k hk => Nat.le_trans hB (hrow.lt k hk).1)) (fun g o hgo hne => (hg.block g (Array.getElem?_eq_some_iff.1 hgo).1 (fun e => hne e.symm)).trans hgo)
  show (cs ++ Lib.strCells ⟨str.toArray⟩)[i * 1 + 0]? = _
  rw [Nat.mul_one, Nat.add_zero]
  rw [List.getElem?_append] at hy ⊢
  rw [hlen]
  split at hy
  · rename_i hlt
    rw [if_pos hlt]
    have := hr i y hy
    simpa [eByte] using this
  · rename_i hlt
    rw [if_neg hlt]
    unfold Lib.strCells
    simp [hy]
/-- A slice of two. -/
theorem sl_two {w : World} {S : Nat → Prop} {b : Nat} {t : TypeId} {A : Option Addr} {n c : Nat} {B : Option Addr} {m e : Nat} {x y : List UInt8} (hb : w.heap[b]? = some (.cells #[.slice A n c, .slice B m e] t (0, 0))) (hS : S b) (hx : Byt w S A n c x) (hy : Byt w S B m e y) : Sl 1 eBlock w S (some ⟨b, 0, none⟩) 2 [x, y] :=
  .lit hb hS rfl fun i z hz => by
    match i, hz with
    | 0, hz => obtain rfl : x = z := by simpa using hz
               exact ⟨A, n, c, by simp, hx.1, hx.2⟩
    | 1, hz => obtain rfl : y = z := by simpa using hz
               exact ⟨B, m, e, by simp, hy.1, hy.2⟩
    | i + 2, hz => simp at hz
theorem growDBytes_nil (w : World) (n : Nat) (hm : n * 1 ≤ lim) (h63 : n ≤ lim) :
    Calls Tryd.prog 71 #[.slice none 0 0, .int .i64 n] w fun e w' => ∃ v, e = .returned v ∧ Own 1 eByte w' w.heap.size 5 v ([] : List (UInt8)) ∧ Fr w w' := by
  obtain ⟨i0, hi0, hi1⟩ := Option.map_eq_some_iff.1 infoByte
  simp only [Prod.mk.injEq] at hi1
  obtain ⟨hz0, hz1, hz2⟩ := hi1
  unfold lim at h63 hm
  have h1 : ¬ ((n : Int) < 0) := by omega
  by_cases h0 : n = 0
  · subst h0
    clear hi0 hz0 hz1 hz2
    go_enter Tryd.func71, Tryd.ntmps71
    go_wp2
    go_ret
    exact ⟨_, rfl, Own.nil, Below.refl _ _⟩
  · have h4 : (n : Int) > 0 := by omega
    obtain ⟨G, hG⟩ : ∃ G, G = grownCap w n 0 5 := ⟨_, rfl⟩
    obtain ⟨cur, hcur⟩ : ∃ cur, cur = Builtin.zeroCells ((bV 0) : Value).cells n ++ Builtin.zeroCells ((bV 0) : Value).cells (G - n) := ⟨_, rfl⟩
    have hge := grownCap_ge w n 0 5
    have hle := grownCap_le_maxLen w n 0 5 (by unfold maxLen; omega)
    rw [← hG] at hge hle
    have hcs : cur.size = G * 1 := by
      rw [hcur, Array.size_append, size_zeroCells, size_zeroCells, ← Nat.add_mul]
      show (n + (G - n)) * 1 = G * 1
      congr 1; omega
    have hrz : Hid (∀ ty, (Builtin.append_ #[26, 3] ty #[.slice none 0 0, .int .i64 (n : Int)]).run Tryd.prog w = .ok (.slice (some ⟨w.heap.size, 0, none⟩) n G) (w.drew.alloc (.cells cur 5))) := fun ty => by
      have h := Lib.run_append_grow_zeros (P := Tryd.prog) w 26 3 ty 5 i0 (bV 0) .i64 .i64 Tryd.underlying26 Tryd.underlying3 hi0 hz0 Option.none 0 0 [] (run_firstCells_none w.drew i0.size 0 0 0) n (by omega) (by rw [hz1]; decide) (by omega) (by omega)
        (by rw [hz2]; omega) (by rw [hz2, Nat.zero_add]; exact growslice_fits (by omega) (by omega))
      rw [Nat.zero_add] at h
      rw [h, hcur, hG]
      simp
    have HO : Hid (Own 1 eByte (w.drew.alloc (.cells cur 5)) w.heap.size 5 (.slice (some ⟨w.heap.size, 0, none⟩) 0 G) ([] : List (UInt8))) :=
      ⟨[], ⟨by simp, .inr ⟨w.heap.size, G, cur, rfl, Nat.le_refl _, heap_alloc_new w.drew _, Nat.zero_le _, hle, hcs, by simp⟩⟩, fun i x h => by simp at h⟩
    clear hG hcur hle hcs hi0 hz0 hz1 hz2
    go_enter Tryd.func71, Tryd.ntmps71
    go_wp2_with (at_builtin; refine Lib.wpList_append_run _ rfl _ _ _ _ rfl _ _ rfl rfl _ _ (hrz.out _) ?_)
    go_ret
    exact ⟨_, rfl, HO.out, (Below.refl _ _).drew.alloc (Nat.le_refl _) _⟩

set_option maxHeartbeats 1000000 in
theorem concatDBytes_any (w : World) (A : Option Addr) (n c : Nat) (ls : List (List (UInt8))) (h : Sl 1 (eSl 1 1 eByte) w (LT w.heap.size) A n ls) (hm : n ≤ lim) (hs : lens ls * 1 ≤ lim) (hs1 : lens ls ≤ lim) :
    Calls Tryd.prog 50 #[.slice A n c] w fun e w' => ∃ v, e = .returned v ∧ Own 1 eByte w' w.heap.size 5 v ls.flatten ∧ Fr w w' := by
  obtain ⟨i0, hi0, _⟩ := Option.map_eq_some_iff.1 infoByte
  have hm1 := hm
  have hs2 := hs1
  unfold lim at hm1 hs2
  (have H := Lib.hid h; clear h; have Hi0 := Lib.hid hi0; clear hi0)
  go_enter Tryd.func50, Tryd.ntmps50
  go_wp2_with fail
  go_loop [3, 11] (fun s i => ∃ k : Nat, k ≤ n ∧ i = .int .i64 k ∧ s = .int .i64 (lens (ls.take k) : Nat)) (fun _ i => n - (intOf i).toNat)
  case atStart => exact ⟨0, Nat.zero_le _, rfl, by simp [lens]⟩
  case round =>
    obtain ⟨k, hk, rfl, rfl⟩ := hrel
    by_cases hlt : k < n
    · obtain ⟨ad, rfl, hE⟩ := H.out.els (by omega)
      obtain ⟨A', n', c', l, hl, hcl, hm', hc1, hc2, hsl⟩ := hE.slC hlt
      have h1 := lens_take_succ hl
      have h2 := lens_take_le ls (k + 1)
      rw [hsl.1] at h1
      obtain ⟨a, ha⟩ : ∃ a, a = lens (ls.take k) := ⟨_, rfl⟩
      obtain ⟨b, hb⟩ : ∃ b, b = lens (ls.take (k + 1)) := ⟨_, rfl⟩
      rw [← ha] at h1 ⊢
      rw [← hb] at h1 h2
      have hab : a + n' ≤ 140737488355328 := by omega
      have hneg : ¬ ((a : Int) + (n' : Int) < 0) := by omega
      have HB : Hid (b = a + n') := h1
      have HB2 := Lib.hid hb
      clear hl hsl h1 ha hb
      go_wp2_with fail
      go_round
      case rel => exact ⟨k + 1, by omega, by go_num, by rw [← HB2.out, HB.out]; go_num⟩
      case measure => simp [intOf]; omega
    · obtain rfl : k = n := by omega
      have ht : Hid (ls.take k = ls) := List.take_of_length_le (by rw [H.out.1]; exact Nat.le_refl _)
      rw [ht.out]
      obtain ⟨T, hT⟩ : ∃ T, T = lens ls := ⟨_, rfl⟩
      rw [← hT] at hs hs1 ⊢
      (have HT := Lib.hid hT; clear hT)
      go_wp2_with fail
      (with_reducible refine (growDBytes_nil _ T hs hs1).mono ?_)
      rintro e w1 ⟨v1, rfl, ho1, hf1⟩
      (have Ho1 := Lib.hid ho1; clear ho1; have Hf1 := Lib.hid hf1; clear hf1)
      go_wp2_with fail
      go_loopw [6, 27] (fun v i wr => ∃ j : Nat, j ≤ k ∧ i = .int .i64 j ∧ Hid (Own 1 eByte wr w.heap.size 5 v (ls.take j).flatten) ∧ Hid (Below w.heap.size w wr)) (fun _ i _ => k - (intOf i).toNat)
      case atStart => exact ⟨0, Nat.zero_le _, rfl, Ho1, Hf1⟩
      case round =>
        obtain ⟨j, hj, rfl, HO, HF⟩ := hrel
        by_cases hlt2 : j < k
        · obtain ⟨ad, rfl, hE⟩ := H.out.els (by omega)
          obtain ⟨A', n', c', l, hl, hcl, hm', hc1, hc2, hsl⟩ := hE.slC hlt2
          have hcw : wr.cell? (ad.add j) = some (.slice A' n' c') := (HF.out.cell (p := ad.add j) (by rw [block_of_add]; exact hE.2.1)).trans hcl
          have Hlen : Hid ((ls.take j).flatten.length + n' ≤ T) := by
            have h1 := lens_take_succ hl
            have h2 := lens_take_le ls (j + 1)
            rw [hsl.1] at h1
            have := HT.out
            rw [Hid, length_flatten_lens]; omega
          have HT2 : Hid ((ls.take (j + 1)).flatten = (ls.take j).flatten ++ l) := by rw [Hid, take_snoc' hl, List.flatten_append]; simp
          have HTb : Hid (T * 1 ≤ lim ∧ T ≤ lim) := ⟨hs, hs1⟩
          cases A' with
          | none =>
            have hn0 : n' = 0 := by
              rcases Nat.eq_zero_or_pos n' with h0 | h0
              · exact h0
              · obtain ⟨ad', e, _⟩ := hsl.2 h0; cases e
            subst hn0
            have hl0 : l = [] := List.eq_nil_of_length_eq_zero hsl.1
            subst hl0
            have HO3 : Hid (Own 1 eByte wr w.heap.size 5 u6 (ls.take (j + 1)).flatten) := by rw [HT2.out, List.append_nil]; exact HO.out
            clear hl hcl hsl
            go_wp2_with (at_builtin; refine wpList_apps_nil _ rfl _ _ 26 rfl w.heap.size 5 i0 Tryd.underlying26 Hi0.out _ _ c' rfl HO.out rfl ?_)
            go_roundw
            case rel => exact ⟨j + 1, by omega, by go_num, HO3, HF⟩
            case measure => simp [intOf]; omega
          | some adb =>
            obtain ⟨news, hnl, hnc, hn1, hnr⟩ : ∃ news : List Value, news.length = n' * 1 ∧ (∀ j u, news[j]? = some u → w.cell? (adb.add j) = some u ∧ adb.block < w.heap.size) ∧ (∀ u ∈ news, u.oneCell' = true) ∧ ∀ i x, l[i]? = some x → eByte w (LT w.heap.size) (fun j => news[i * 1 + j]?) x := by
              rcases Nat.eq_zero_or_pos n' with h0 | h0
              · have hl0 : l = [] := List.eq_nil_of_length_eq_zero (by rw [hsl.1]; exact h0)
                exact ⟨[], by simp [h0], fun j u hu => by simp at hu, fun u hu => by simp at hu, fun i x hx => by simp [hl0] at hx⟩
              · obtain ⟨ad', e, hE'⟩ := hsl.els h0
                injection e with e
                subst e
                obtain ⟨cs, k1, k2, k3, k4⟩ := hE'.cells fByte sByte (by decide)
                exact ⟨cs, k1, fun j u hu => ⟨k2 j u hu, hE'.2.1⟩, k3, k4⟩
            have hll := hsl.1
            have hfar : Hid (∀ b, b < w.heap.size → u6.ownBlock ≠ some b) := fun b hb => HO.out.far hb
            clear hl hcl hsl
            (have Hnl := Lib.hid hnl; clear hnl; have Hnc := Lib.hid hnc; clear hnc; have Hn1 := Lib.hid hn1; clear hn1; have Hnr := Lib.hid hnr; clear hnr; have Hll := Lib.hid hll; clear hll)
            go_wp2_with (at_builtin; refine wpList_apps _ rfl _ _ 26 rfl w.heap.size 5 _ _ _ Tryd.underlying26 infoByte rfl (by decide) sByte _ (ls.take j).flatten rfl HO.out adb n' c' news rfl Hnl.out ?c1 Hn1.out l Hll.out ?c3 ?c4 ?c5 ?c6 ?_)
            case c1 => intro i u hu; obtain ⟨k1, k2⟩ := Hnc.out i u hu; exact (HF.out.cell (by rw [block_of_add]; exact k2)).trans k1
            case c3 =>
              intro i x hx
              exact (sByte).more (S := LT w.heap.size) (fun b hb => ⟨Nat.lt_of_lt_of_le hb HF.out.size, hfar.out b hb⟩) ((sByte).keep (fun p hp => HF.out.cell hp) (Hnr.out i x hx))
            case c4 => have := Hlen.out; have q := HTb.out.2; unfold maxLen; unfold lim at q; omega
            case c5 => exact Nat.le_trans (Nat.mul_le_mul_right _ Hlen.out) HTb.out.1
            case c6 => exact HF.out.size
            · intro v' w3 ho3 hg3 hge3
              have HO3 : Hid (Own 1 eByte w3 w.heap.size 5 v' (ls.take (j + 1)).flatten) := by rw [HT2.out]; exact ho3
              have HF3 : Hid (Below w.heap.size w w3) := HF.out.grown hg3 HF.out.size hge3
              clear ho3 hg3 hge3
              go_wp2
              go_roundw
              case rel => exact ⟨j + 1, by omega, by go_num, HO3, HF3⟩
              case measure => simp [intOf]; omega
        · obtain rfl : j = k := by omega
          rw [ht.out] at HO
          go_wp2_with fail
          go_ret
          exact ⟨_, rfl, HO.out, HF.out⟩
/-- What a function of a disk leaves: bytes of its own. -/
def KPost (w : World) (X : Dk × Int) (r : Ending) (w' : World) : Prop := ∃ A n c B m e, r = .returned (.tuple #[.agg #[.slice A n c, .slice B m e], .int .i64 X.2]) ∧ Byt w' (NW w.heap.size w'.heap.size) A n c X.1.safe ∧ Byt w' (NW w.heap.size w'.heap.size) B m e X.1.wait ∧ Fr w w'
theorem kpost_err {w w' : World} {X : Dk × Int} {c : Int} (h : X = (Dk.zero, c)) (hf : Fr w w') : KPost w X (.returned (.tuple #[.agg #[.slice none 0 0, .slice none 0 0], .int .i64 c])) w' := by
  subst h
  exact ⟨none, 0, 0, none, 0, 0, rfl, byt_nil, byt_nil, hf⟩
/-- Bytes of one's own, as bytes in new blocks. -/
theorem Own.byt {w : World} {base : Nat} {e : TypeId} {v : Value} {l : List UInt8} (h : Own 1 eByte w base e v l) (hl : l.length ≤ lim) : ∃ A c, v = .slice A l.length c ∧ Byt w (NW base w.heap.size) A l.length c l := by
  obtain ⟨A, c, e, hc, hs⟩ := h.nwByt
  exact ⟨A, c, e, ⟨by omega, hc⟩, hs⟩
end Go.Proofs.YtkfpgnoodhlfgaaDoor
namespace Go.Proofs.YtkfpgnoodhlfgaaDoor

theorem dec_len7 : ∀ (k u : Nat), u < 10 ^ (k + 1) → (Lib.decDigits u).length ≤ k + 1
  | 0, u, h => by
    rw [Lib.decDigits, dif_pos (by simpa using h)]; simp
  | k + 1, u, h => by
    rw [Lib.decDigits]
    split
    · simp
    · have := dec_len7 k (u / 10) (by rw [Nat.pow_succ] at h; omega)
      simp only [List.length_append, List.length_singleton]; omega
theorem itoa_len7 {n : Int} (h : 0 ≤ n ∧ n ≤ 1000000) : (Lib.itoa n).length ≤ 7 := by
  unfold Lib.itoa
  rw [if_neg (by omega)]
  exact dec_len7 6 n.toNat (by omega)
theorem recText_len4 {r : Rc} (e : recCheck r = 0) : (recText r).length ≤ 10000 := by
  obtain ⟨h1, h2⟩ := recCheck_len e
  have := join_len 32 721 (recWords r) fun w hw => by
    unfold recWords at hw
    rcases List.mem_append.1 hw with hw | hw
    · obtain ⟨n, hn, rfl⟩ := List.mem_map.1 hw
      have := itoa_len7 (recInts_bd e n hn)
      omega
    · simp only [List.mem_cons, List.not_mem_nil, or_false] at hw
      rcases hw with rfl | rfl <;> simp only [List.length_cons, hexE_length] <;> omega
  rw [recWords_length] at this
  unfold recText
  omega
end Go.Proofs.YtkfpgnoodhlfgaaDoor
