/- disk.Put. Conditions: the library's variables are laid; the record's numbers fit. -/
import Derived.Test.YtmiaplgfbphfmaaGreatDoorMPV
import Derived.Test.YtmiaplgfbphfmaaGreatDoorMPQ
import Derived.Test.YtmiaplgfbphfmaaGreatDoorMPN
import Derived.Deep.DeepCutAuto
import Derived.Deep.Cut
import Derived.Laws.BytesArg
import Derived.Test.YtmiaplgfbphfmaaGreatDoorMPB
import Derived.Laws.AppendOwnNone
import Derived.Lib.AppendZerosOnto
import Derived.Test.YtmiaplgfbphfmaaGreatDoorMPJ
import Derived.Test.YtmiaplgfbphfmaaGreatDoorMPGB
import Derived.Lib.AppendStr
import Derived.Test.YtmiaplgfbphfmaaGreatDoorMPGG
import Derived.Test.YtmiaplgfbphfmaaGreatDoorMPI
set_option linter.unusedSimpArgs false
set_option linter.unusedVariables false
namespace Go.Proofs.YtmiaplgfbphfmaaGreatDoor
open Go.RowKit

theorem cut_any (w : World) (v : Vars w) (c : UInt8) (l : List UInt8) (hl : l.length ≤ 1000000) :
    Calls Tryz.prog 119 #[sV l, sV [c]] w fun e w' => e = .returned (.tuple #[sV (Lib.cut l [c]).1, sV (Lib.cut l [c]).2.1, .bool (Lib.cut l [c]).2.2]) ∧ Fr w w' := by
  obtain ⟨m, hm⟩ := v.mx
  have hs := sV_size l
  refine (Tryz.strings_Cut ⟨l.toArray⟩ ⟨#[c]⟩ m w (by omega) hm).mono ?_
  rintro e w' ⟨rfl, n, rfl⟩
  exact ⟨rfl, frDrewN _ _⟩
/-- What it cuts. -/
theorem cut_cases (c : UInt8) (l : List UInt8) : (c ∉ l ∧ Lib.cut l [c] = (l, [], false) ∧ pieces c l = [l]) ∨ ∃ a b, l = a ++ c :: b ∧ c ∉ a ∧ Lib.cut l [c] = (a, b, true) ∧ pieces c l = a :: pieces c b := by
  have hi := Lib.index_one l c
  have hge := Lib.indexByte_ge l c
  by_cases hm : Lib.indexByte l c = -1
  · have h1 := indexByte_miss hm
    refine .inl ⟨h1, ?_, pieces_miss c l h1⟩
    unfold Lib.cut
    rw [hi, hm, if_neg (by omega)]
  · obtain ⟨o, ho⟩ := Int.eq_ofNat_of_zero_le (show 0 ≤ Lib.indexByte l c by omega)
    obtain ⟨h2, h3, h4⟩ := indexByte_split ho
    refine .inr ⟨l.take o, l.drop (o + 1), h4, h3, ?_, ?_⟩
    · unfold Lib.cut
      rw [hi, ho, if_pos (by omega), Int.toNat_natCast]; rfl
    · conv => lhs; rw [h4, pieces_hit c _ _ h3]
end Go.Proofs.YtmiaplgfbphfmaaGreatDoor
namespace Go.Proofs.YtmiaplgfbphfmaaGreatDoor
open Go.RowKit
attribute [local irreducible] wpList

theorem infoRec : (Tryz.prog.info? 40).map (fun i => (i.zero, i.size, i.bytes)) = some (some (.agg #[.int .i64 0, .int .i64 0, .int .i64 0, .int .i64 0, .int .i64 0, .int .i64 0, .int .i64 0, .int .i64 0, .int .i64 0, .int .i64 0, .int .i64 0, .slice none 0 0, .slice none 0 0]), 13, 136) := by kernel_rfl
def strN : Value → Nat
  | .string s => s.size
  | _ => 0
theorem linesGo_cut (most : Nat) (acc : List Rc) (n : Nat) (a b : List UInt8) : linesGo most acc n (a :: pieces 10 b) = if (parseF a).2 ≠ 0 then (acc, n, (parseF a).2) else if acc.length = most then (acc, n, 2) else linesGo most (acc ++ [(parseF a).1]) (n + (a.length + 1)) (pieces 10 b) := by
  cases h : pieces 10 b with
  | nil => exact absurd h (pieces_ne 10 b)
  | cons x ls => rw [linesGo]
/-- note.Parse, its record told by its cells, in new blocks. -/
theorem parse_outN {w w' : World} {x : Rc} {xe : Int} {e : Ending} (h : RPost w (x, xe) e w') : ∃ B n c B2 n2 c2, e = .returned (.tuple #[.agg #[.int .i64 x.kind, .int .i64 x.place, .int .i64 x.n, .int .i64 x.try_, .int .i64 x.h.frm, .int .i64 x.h.seq, .int .i64 x.h.to, .int .i64 x.h.till, .int .i64 x.h.bytes, .int .i64 x.h.block, .int .i64 x.s.id, .slice B n c, .slice B2 n2 c2], .int .i64 xe]) ∧ x.wf ∧ Byt w' (NW w.heap.size w'.heap.size) B n c x.s.data ∧ Byt w' (NW w.heap.size w'.heap.size) B2 n2 c2 x.cargo ∧ Fr w w' := h
theorem eRc_cells {w : World} {S : Nat → Prop} {x : Rc} {B : Option Addr} {n c : Nat} {B2 : Option Addr} {n2 c2 : Nat} (hw : x.wf) (h1 : Byt w S B n c x.s.data) (h2 : Byt w S B2 n2 c2 x.cargo) : eRc w S (fun j => ([.int .i64 x.kind, .int .i64 x.place, .int .i64 x.n, .int .i64 x.try_, .int .i64 x.h.frm, .int .i64 x.h.seq, .int .i64 x.h.to, .int .i64 x.h.till, .int .i64 x.h.bytes, .int .i64 x.h.block, .int .i64 x.s.id, .slice B n c, .slice B2 n2 c2] : List Value)[j]?) x :=
  eRc_iff.2 ⟨B, n, c, B2, n2, c2, ⟨rfl, rfl, rfl, rfl, rfl, rfl, rfl, rfl, rfl, rfl, rfl, rfl, rfl⟩, hw, h1, h2⟩
/-- A reading off the blocks from N on. -/
def eNew {α : Type} (N : Nat) (r : ERd α) : ERd α := fun w S f x => r w (fun b => S b ∧ N ≤ b) f x
theorem Stable.newer {α : Type} {size : Nat} {r : ERd α} (s : Stable size r) (N : Nat) : Stable size (eNew N r) :=
  ⟨fun hk h => s.keep (fun p hp => hk p hp.1) h, fun hB h => s.more (fun b hb => ⟨hB b hb.1, hb.2⟩) h, fun hf h => s.mono hf h⟩
theorem Full.newer {α : Type} {size : Nat} {r : ERd α} (F : Full size r) (N : Nat) : Full size (eNew N r) := fun h j hj => F h j hj
/-- What disk.lines leaves. -/
def LPost (w : World) (X : List Rc × Nat × Int) (e : Ending) (w' : World) : Prop := ∃ v, e = .returned (.tuple #[v, .int .i64 X.2.1, .int .i64 X.2.2]) ∧ Own 13 (eNew w.heap.size eRc) w' w.heap.size 40 v X.1 ∧ Fr w w'
set_option maxRecDepth 100000 in
set_option maxHeartbeats 16000000 in
theorem lines_any (w : World) (v : Vars w) (s : List UInt8) (hs : s.length ≤ 60000) (most : Nat) (hm : most ≤ 200) :
    Calls Tryz.prog 71 #[sV s, .int .i64 most] w (LPost w (linesF most s)) := by
  obtain ⟨X, hX⟩ : ∃ X, X = linesF most s := ⟨_, rfl⟩
  rw [← hX]
  have HX0 : Hid (X = linesGo most [] (s.length - s.length) (pieces 10 s)) := by rw [Hid, hX, Nat.sub_self]; rfl
  have HV := Lib.hid v
  clear v hX
  go_enter Tryz.func71, Tryz.ntmps71
  go_wp2_with fail
  go_loopw [0, 7] (fun s0 s7 wr => ∃ (S : List UInt8) (acc : List Rc), s0 = sV S ∧ Hid (Own 13 (eNew w.heap.size eRc) wr w.heap.size 40 s7 acc) ∧ Hid (Fr w wr) ∧ S.length ≤ s.length ∧ acc.length ≤ most ∧ Hid (X = linesGo most acc (s.length - S.length) (pieces 10 S))) (fun i _ _ => strN i)
  case atStart => exact ⟨s, [], rfl, Own.nil, Below.refl _ _, Nat.le_refl _, Nat.zero_le _, HX0⟩
  case round =>
    obtain ⟨S, acc, rfl, HO, HF, hSl, hal, HX⟩ := hrel
    clear HX0
    obtain ⟨A, c, rfl, ⟨hac, hcm⟩, _⟩ := HO.out.slC (sRc.newer _) (by decide)
    have hsub : ((s.length : Int) - (S.length : Int)) = ((s.length - S.length : Nat) : Int) := by omega
    by_cases hS : S = []
    · have t1 : S.isEmpty = true := by simp [hS]
      have hx : Hid (X = (acc, s.length, 0)) := HX.out.trans (by rw [hS]; simp [pieces, linesGo])
      clear hS HX hsub
      go_wp2_with fail
      refine bodyPost_ret (v := .tuple #[.slice A acc.length c, .int .i64 (s.length : Int), .int .i64 0]) ?_ rfl ?_
      · simp [results, Tryz.results71, go_sem]
      · rw [hx.out]
        exact ⟨_, rfl, HO.out, HF.out⟩
    have t1 : S.isEmpty = false := by simp [hS]
    go_wp2_with fail
    (with_reducible refine (cut_any wr (HV.out.go HF.out) 10 S (by omega)).mono ?_)
    rintro e w4 ⟨rfl, hf4⟩
    have HF4 : Hid (Fr w w4) := HF.out.trans hf4
    have HO4 : Hid (Own 13 (eNew w.heap.size eRc) w4 w.heap.size 40 (.slice A acc.length c) acc) := HO.out.fr (sRc.newer _) hf4
    clear hf4 HF HO
    rcases cut_cases 10 S with ⟨_, hcut, hpc⟩ | ⟨a, b, hSab, _, hcut, hpc⟩
    · have hx : Hid (X = (acc, s.length - S.length, 9)) := HX.out.trans (by rw [hpc, linesGo, if_neg hS])
      rw [hcut]
      clear hcut hpc hS HX
      go_wp2_with fail
      refine bodyPost_ret (v := .tuple #[.slice A acc.length c, .int .i64 ((s.length - S.length : Nat) : Int), .int .i64 9]) ?_ rfl ?_
      · simp [results, Tryz.results71, go_sem]
      · rw [hx.out]
        exact ⟨_, rfl, HO4.out, HF4.out⟩
    · obtain ⟨x, xe, hps⟩ : ∃ x xe, parseF a = (x, xe) := ⟨_, _, rfl⟩
      have hSl2 : S.length = a.length + (b.length + 1) := by rw [hSab]; simp
      have hb60 : a.length ≤ 60000 := by omega
      have HXB : Hid (X = if xe ≠ 0 then (acc, s.length - S.length, xe) else if acc.length = most then (acc, s.length - S.length, 2) else linesGo most (acc ++ [x]) (s.length - b.length) (pieces 10 b)) := by
        rw [Hid, HX.out, hpc, linesGo_cut, hps, show s.length - S.length + (a.length + 1) = s.length - b.length by omega]
      have CP : Hid (Calls Tryz.prog 120 #[sV a] w4 (RPost w4 (x, xe))) := by rw [← hps]; exact noteParse_any w4 (HV.out.go HF4.out) a (by unfold lim; omega)
      rw [hcut]
      have HSL2 := Lib.hid hSl2
      clear hcut hpc hS HX hps hSab hb60 hSl2
      go_wp2_with fail
      (with_reducible refine (CP.out).mono ?_)
      rintro e w5 h5
      obtain ⟨D, n, dc, D2, n2, dc2, rfl, hwx, hd, hd2, hf5⟩ := parse_outN h5
      have HF5 : Hid (Fr w w5) := HF4.out.trans hf5
      have HO5 : Hid (Own 13 (eNew w.heap.size eRc) w5 w.heap.size 40 (.slice A acc.length c) acc) := HO4.out.fr (sRc.newer _) hf5
      have HD := Lib.hid hd
      have HD2 := Lib.hid hd2
      have HWX := Lib.hid hwx
      have h4w : w.heap.size ≤ w4.heap.size := HF4.out.size
      have HFAR : Hid (∀ k, NW w4.heap.size w5.heap.size k → k < w5.heap.size ∧ (Value.slice A acc.length c).ownBlock ≠ some k ∧ w.heap.size ≤ k) := by
        intro k hk
        refine ⟨hk.2, fun e => ?_, Nat.le_trans h4w hk.1⟩
        obtain ⟨cs, ho, _⟩ := HO4.out
        have := (ho.lt k e).2
        have := hk.1
        omega
      clear h5 hwx hd hd2 hf5 CP HF4 HO4
      go_upto_region 8 with fail
      obtain ⟨y, hy⟩ : ∃ y, y = w5.heap.size := ⟨_, rfl⟩
      obtain ⟨W6, hW6⟩ : ∃ W6, W6 = w5.alloc (.cells #[.int .i64 x.kind, .int .i64 x.place, .int .i64 x.n, .int .i64 x.try_, .int .i64 x.h.frm, .int .i64 x.h.seq, .int .i64 x.h.to, .int .i64 x.h.till, .int .i64 x.h.bytes, .int .i64 x.h.block, .int .i64 x.s.id, .slice D n dc, .slice D2 n2 dc2] 40) := ⟨_, rfl⟩
      rw [← hW6, ← hy]
      have hy6 : W6.heap[y]? = some (.cells #[.int .i64 x.kind, .int .i64 x.place, .int .i64 x.n, .int .i64 x.try_, .int .i64 x.h.frm, .int .i64 x.h.seq, .int .i64 x.h.to, .int .i64 x.h.till, .int .i64 x.h.bytes, .int .i64 x.h.block, .int .i64 x.s.id, .slice D n dc, .slice D2 n2 dc2] 40 (0, 0)) := by rw [hW6]; exact heap_new hy
      have hf6 : Fr w5 W6 := by rw [hW6]; exact frAlloc _ _
      have HF6 : Hid (Fr w W6) := HF5.out.trans hf6
      have HF56 := Lib.hid hf6
      have HO6 : Hid (Own 13 (eNew w.heap.size eRc) W6 w.heap.size 40 (.slice A acc.length c) acc) := HO5.out.fr (sRc.newer _) hf6
      clear hy hW6 hf6 HF5 HO5
      by_cases hxe : xe = 0
      case neg =>
        have t2 : (xe != 0) = true := by simp [hxe]
        have hx : Hid (X = (acc, s.length - S.length, xe)) := HXB.out.trans (if_pos hxe)
        clear hxe HXB hy6
        go_wp2_with fail
        refine bodyPost_ret (v := .tuple #[.slice A acc.length c, .int .i64 ((s.length - S.length : Nat) : Int), .int .i64 xe]) ?_ rfl ?_
        · simp [results, Tryz.results71, go_sem]
        · rw [hx.out]
          exact ⟨_, rfl, HO6.out, HF6.out⟩
      case pos =>
      have t2 : (xe != 0) = false := by simp [hxe]
      have HXC := Lib.hid (HXB.out.trans (if_neg (fun h => h hxe)))
      clear hxe HXB
      by_cases hfull : acc.length = most
      case pos =>
        have t3 : ((acc.length : Int) == (most : Int)) = true := by simp only [beq_iff_eq]; omega
        have hx : Hid (X = (acc, s.length - S.length, 2)) := HXC.out.trans (if_pos hfull)
        clear hfull HXC hy6
        go_wp2_with fail
        refine bodyPost_ret (v := .tuple #[.slice A acc.length c, .int .i64 ((s.length - S.length : Nat) : Int), .int .i64 2]) ?_ rfl ?_
        · simp [results, Tryz.results71, go_sem]
        · rw [hx.out]
          exact ⟨_, rfl, HO6.out, HF6.out⟩
      case neg =>
      have t3 : ((acc.length : Int) == (most : Int)) = false := by simp only [beq_eq_false_iff_ne]; omega
      have hx : Hid (X = linesGo most (acc ++ [x]) (s.length - b.length) (pieces 10 b)) := HXC.out.trans (if_neg hfull)
      have hrc : Hid (eNew w.heap.size eRc W6 (fun b => b < W6.heap.size ∧ (Value.slice A acc.length c).ownBlock ≠ some b) (fun j => ([.int .i64 x.kind, .int .i64 x.place, .int .i64 x.n, .int .i64 x.try_, .int .i64 x.h.frm, .int .i64 x.h.seq, .int .i64 x.h.to, .int .i64 x.h.till, .int .i64 x.h.bytes, .int .i64 x.h.block, .int .i64 x.s.id, .slice D n dc, .slice D2 n2 dc2] : List Value)[j]?) x) := by
        have hS6 := HF56.out.size
        have hk : ∀ {B : Option Addr} {n c' : Nat} {l : List UInt8}, Byt w5 (NW w4.heap.size w5.heap.size) B n c' l → Byt W6 (fun b => (b < W6.heap.size ∧ (Value.slice A acc.length c).ownBlock ≠ some b) ∧ w.heap.size ≤ b) B n c' l := fun h =>
          ⟨h.1, (h.2.keep sByte fun p hp => HF56.out.cell hp.2).more sByte fun k hk => ⟨⟨Nat.lt_of_lt_of_le (HFAR.out k hk).1 hS6, (HFAR.out k hk).2.1⟩, (HFAR.out k hk).2.2⟩⟩
        exact eRc_cells HWX.out (hk HD.out) (hk HD2.out)
      have hLm : acc.length + 1 ≤ maxLen := by unfold maxLen; omega
      have hLs : (acc.length + 1) * 136 ≤ lim := by unfold lim; omega
      have hbb := HF6.out.size
      have hone : Hid (∀ u ∈ ([.int .i64 x.kind, .int .i64 x.place, .int .i64 x.n, .int .i64 x.try_, .int .i64 x.h.frm, .int .i64 x.h.seq, .int .i64 x.h.to, .int .i64 x.h.till, .int .i64 x.h.bytes, .int .i64 x.h.block, .int .i64 x.s.id, .slice D n dc, .slice D2 n2 dc2] : List Value), u.oneCell' = true) := by simp [Hid, Value.oneCell']
      have hal2 : acc.length + 1 ≤ most := by omega
      (obtain ⟨by0, by1, by2, by3, by4, by5, by6, by7, by8, by9, by10, by11, by12⟩ := box13_ hy6)
      clear hfull HXC hy6 HD HD2 HWX HFAR HF56
      go_wp2_with (at_builtin; refine wpList_app1 rfl _ _ 22 rfl w.heap.size 40 (.agg #[.int .i64 0, .int .i64 0, .int .i64 0, .int .i64 0, .int .i64 0, .int .i64 0, .int .i64 0, .int .i64 0, .int .i64 0, .int .i64 0, .int .i64 0, .slice none 0 0, .slice none 0 0]) 136 Tryz.underlying22 infoRec rfl (by decide) (sRc.newer _) W6 (frAlloc _ _) (.slice A acc.length c) acc rfl HO6.out W6.heap.size [.int .i64 x.kind, .int .i64 x.place, .int .i64 x.n, .int .i64 x.try_, .int .i64 x.h.frm, .int .i64 x.h.seq, .int .i64 x.h.to, .int .i64 x.h.till, .int .i64 x.h.bytes, .int .i64 x.h.block, .int .i64 x.s.id, .slice D n dc, .slice D2 n2 dc2] 40 (0, 0) rfl (heap_new rfl) rfl hone.out x hrc.out hLm hLs w.heap.size w HF6.out (Nat.le_refl _) hbb ?_)
      intro v' w7 HO7 HF7
      go_wp2_with fail
      go_roundw
      case rel => exact ⟨b, acc ++ [x], rfl, HO7, HF7, by have := HSL2.out; omega, by simpa using hal2, hx⟩
      case measure =>
        have := HSL2.out
        simp only [strN, sV_size]
        omega
end Go.Proofs.YtmiaplgfbphfmaaGreatDoor
namespace Go.Proofs.YtmiaplgfbphfmaaGreatDoor
open Go.RowKit
attribute [local irreducible] wpList

theorem foldl_bytes : ∀ (l : List UInt8) (s : ByteArray), (l.map fun b => (b.toNat : Int)).foldl (fun r n => r.push (UInt8.ofNat n.toNat)) s = ⟨s.data ++ l.toArray⟩
  | [], s => by simp
  | b :: l, s => by
    rw [List.map_cons, List.foldl_cons, foldl_bytes l]
    simp [ByteArray.push]
/-- Bytes as a string. -/
theorem conv_bytes (W : World) {S : Nat → Prop} {A : Option Addr} {n : Nat} (c : Nat) {l : List UInt8} (h : Sl 1 eByte W S A n l) : (convert 35 9 (.slice A n c)).run Tryz.prog W = .ok (sV l) W := by
  rw [run_convert_bytes_string W _ _ _ A n c Tryz.underlying35 Tryz.underlying5 Tryz.underlying9]
  cases A with
  | none =>
    have h0 : n = 0 := by
      rcases Nat.eq_zero_or_pos n with h0 | h0
      · exact h0
      · obtain ⟨_, e, _⟩ := h.2 h0; cases e
    have hl : l = [] := List.eq_nil_of_length_eq_zero (h.1.trans h0)
    subst hl
    simp [Conv.bytesToString]
    rfl
  | some ad =>
    have hc : ∀ j v, (l.map fun b => Value.int .u8 (b.toNat : Int))[j]? = some v → W.cell? (ad.add j) = some v := by
      intro j v hj
      rw [List.getElem?_map] at hj
      cases hb : l[j]? with
      | none => rw [hb] at hj; cases hj
      | some b =>
        rw [hb] at hj
        have hn : 0 < n := by have := (List.getElem?_eq_some_iff.1 hb).1; have := h.1; omega
        obtain ⟨ad', e, _, hr⟩ := h.2 hn
        injection e with e
        subst e
        have := hr j b hb
        simp only [eByte, Nat.mul_one, Nat.add_zero] at this
        rw [this]
        simpa using hj
    have hl := run_loadCells_list (P := Tryz.prog) W ad (l.map fun b => Value.int .u8 (b.toNat : Int)) hc
    rw [List.length_map, h.1] at hl
    have := run_bytesToString (P := Tryz.prog) W ad n c (l.map fun b => (b.toNat : Int)) (by rw [List.map_map]; exact hl)
    rw [this, foldl_bytes]
    have e : ByteArray.empty.data ++ l.toArray = l.toArray := by simp [ByteArray.empty, ByteArray.emptyWithCapacity]; rfl
    rw [e]
set_option maxRecDepth 100000 in
set_option maxHeartbeats 8000000 in
theorem diskCheck_any (w : World) (v : Vars w) (d : Dk) (A : Option Addr) (n c : Nat) (B : Option Addr) (m e : Nat) (hA : Byt w (LT w.heap.size) A n c d.safe) (hB : Byt w (LT w.heap.size) B m e d.wait) :
    Calls Tryz.prog 67 #[.agg #[.slice A n c, .slice B m e]] w fun r w' => r = .returned (.int .i64 (diskCheck d)) ∧ Fr w w' := by
  obtain ⟨X, hX⟩ : ∃ X, X = diskCheck d := ⟨_, rfl⟩
  rw [← hX]
  have hl := hA.2.1
  have hl2 := hB.2.1
  have E := Lib.hid (diskCheck.eq_1 d)
  rw [hl, hl2, ← hX] at E
  obtain ⟨W1, hW1⟩ : ∃ W1, W1 = w.alloc (.cells #[.slice A n c, .slice B m e] 43) := ⟨_, rfl⟩
  obtain ⟨p, hp⟩ : ∃ p, p = w.heap.size := ⟨_, rfl⟩
  have hp1 : W1.heap[p]? = some (.cells #[.slice A n c, .slice B m e] 43 (0, 0)) := by rw [hW1]; exact heap_new hp
  have HF1 : Hid (Fr w W1) := by rw [hW1]; exact frAlloc _ _
  have hcv := conv_bytes W1 c (hA.2.go sByte HF1.out)
  have HV := Lib.hid v
  have HL := Lib.hid hl
  (obtain ⟨bp0, bp1⟩ := box2_ hp1)
  clear hp1 hA hB hl hl2 hX v
  go_enter Tryz.func67, Tryz.ntmps67
  go_upto_region 1 with fail
  rw [← hW1, ← hp]
  clear hW1 hp
  by_cases h1 : 60000 < n
  · have t1 : decide ((60000 : Int) < (n : Int)) = true := by simp; omega
    have hx : Hid (X = 2) := E.out.trans (if_pos (.inl h1))
    clear h1 hcv
    go_wp2_with fail
    go_ret
    exact ⟨retI hx.out.symm, HF1.out⟩
  have t1 : decide ((60000 : Int) < (n : Int)) = false := by simp; omega
  by_cases h2 : 60000 < n + m
  · have t2 : decide ((60000 : Int) - (n : Int) < (m : Int)) = true := by simp; omega
    have hx : Hid (X = 2) := E.out.trans (if_pos (.inr h2))
    have hw : IntKind.i64.wrap ((60000 : Int) - (n : Int)) = (60000 : Int) - (n : Int) := by rw [IntKind.wrap_i64]; omega
    clear h1 h2 hcv
    go_wp2_with fail
    go_ret
    exact ⟨retI hx.out.symm, HF1.out⟩
  have t2 : decide ((60000 : Int) - (n : Int) < (m : Int)) = false := by simp; omega
  have hw : IntKind.i64.wrap ((60000 : Int) - (n : Int)) = (60000 : Int) - (n : Int) := by rw [IntKind.wrap_i64]; omega
  obtain ⟨Y, hY⟩ : ∃ Y, Y = linesF 200 d.safe := ⟨_, rfl⟩
  have hx : Hid (X = Y.2.2) := E.out.trans (by rw [if_neg (by omega), hY])
  have LN : Hid (Calls Tryz.prog 71 #[sV d.safe, .int .i64 200] W1 (LPost W1 Y)) := by rw [hY]; exact lines_any W1 (HV.out.go HF1.out) d.safe (by rw [HL.out]; omega) 200 (by omega)
  clear hY E h1 h2
  go_wp2_with fail
  (with_reducible refine (LN.out).mono ?_)
  rintro r w2 ⟨u, rfl, _, hf2⟩
  have HF2 : Hid (Fr w w2) := HF1.out.trans hf2
  clear hf2 LN
  go_wp2_with fail
  go_ret
  exact ⟨retI hx.out.symm, HF2.out⟩
end Go.Proofs.YtmiaplgfbphfmaaGreatDoor
namespace Go.Proofs.YtmiaplgfbphfmaaGreatDoor
set_option maxRecDepth 100000
open Go.RowKit

/-- append of nothing, from nil. -/
theorem wpList_apps_nil {α : Type} {r : ERd α} {size : Nat} {P : Program} (w : World) {ops : Array Oper} {rest : List Oper} {o : Oper} {a : Act} {Q : Exit → Act → World → Prop} (hgd : o.guard = none) (s x : Operand) (t : TypeId)
    (ho : o.op = .call { callee := .builtin .append, args := #[s, x], argTypes := #[t, t] })
    (base : Nat) (e : TypeId) (i : TypeInfo) (ht : P.underlying t = some (.slice e)) (hi : P.info? e = some i)
    (v : Value) (xs : List α) (c : Nat) (hs : a.eval s = v) (hown : Own size r w base e v xs) (hx : a.eval x = .slice none 0 c)
    (h : wpList P ops Q rest (a.put o.dst v) w) : wpList P ops Q (o :: rest) a w := by
  obtain ⟨cs, hrow, _⟩ := hown
  refine wpList_plain hgd fun K hK => ?_
  have hrun : (Builtin.append_ #[t, t] o.type #[v, .slice none 0 c]).run P w = .ok v w := by
    rcases hrow.2 with ⟨rfl, _⟩ | ⟨g, cap, cur, rfl, _, _, hnc, _⟩
    · simp [Builtin.append_, run_underlying ht, sizeOf, typeInfo, hi, Builtin.lenOf, Builtin.firstCells]
    · simp [Builtin.append_, run_underlying ht, sizeOf, typeInfo, hi, Builtin.lenOf, Builtin.firstCells, hnc, storeCells]
  unfold Oper.wp
  simp [execOp, ho, resolve, invoke, builtin, hs, hx, hrun, Result.andThen]
  exact hK _ _ h

/-- How many in all. -/
def lens {α : Type} (ls : List (List α)) : Nat := (ls.map List.length).sum
theorem lens_take_succ {α : Type} {ls : List (List α)} {k : Nat} {l : List α} (h : ls[k]? = some l) : lens (ls.take (k + 1)) = lens (ls.take k) + l.length := by
  unfold lens
  rw [take_snoc' h, List.map_append, List.sum_append]; simp
theorem lens_take_le {α : Type} (ls : List (List α)) (k : Nat) : lens (ls.take k) ≤ lens ls := by
  unfold lens
  have : ls = ls.take k ++ ls.drop k := (List.take_append_drop k ls).symm
  conv => rhs; rw [this, List.map_append, List.sum_append]
  omega
theorem length_flatten_lens {α : Type} (ls : List (List α)) : ls.flatten.length = lens ls := by unfold lens; rw [List.length_flatten]

theorem Els.slC {α : Type} {size bytes : Nat} {r : ERd α} {w : World} {S : Nat → Prop} {n k : Nat} {ad : Addr} {ls : List (List α)} (h : Els 1 (eSl size bytes r) w S ad n ls) (hk : k < n) :
    ∃ A' n' c' l, ls[k]? = some l ∧ w.cell? (ad.add k) = some (.slice A' n' c') ∧ n' * bytes ≤ lim ∧ n' ≤ c' ∧ c' ≤ maxLen ∧ Sl size r w S A' n' l := by
  obtain ⟨x, hx, A', n', c', h0, h1, h2⟩ := h.at_ hk
  exact ⟨A', n', c', x, hx, by simpa using h0, h1.1, h1.2.1, h1.2.2, h2⟩


end Go.Proofs.YtmiaplgfbphfmaaGreatDoor
namespace Go.Proofs.YtmiaplgfbphfmaaGreatDoor
set_option maxRecDepth 100000
open Go.RowKit

/-- Two that may come first. -/
theorem held_two {P : Program} {ops : Array Oper} {Q : Exit → Act → World → Prop} {md : Region.Mode} {S : World → Prop} {i j : Nat} {oi oj : Oper} {ri rj : List Oper} {fuel : Nat} {listed : Array Bool} {a : Act} {w : World} (hi : ops.toList.drop i = oi :: ri) (hj : ops.toList.drop j = oj :: rj) (hr : Region.ready md ops listed = [i, j])
    (h : ∀ K' : Act → World → Prop, Shut (∀ a w, S w → (S w → wpAnyH P md ops Q S fuel (listed.setIfInBounds i true) a w) → K' a w) → if Region.wanted oi (yielded ops a.tmps) = true then Oper.wp P oi a w K' Q else K' (a.put oi.dst undef) w)
    (k : ∀ K' : Act → World → Prop, Shut (∀ a w, S w → (S w → wpAnyH P md ops Q S fuel (listed.setIfInBounds j true) a w) → K' a w) → if Region.wanted oj (yielded ops a.tmps) = true then Oper.wp P oj a w K' Q else K' (a.put oj.dst undef) w) : wpAnyH P md ops Q S (fuel + 1) listed a w :=
  wpAnyH_ready hr (by simp) (AllReadyH.cons (held_at hi) h (AllReadyH.cons (held_at hj) k AllReadyH.nil))
theorem step_appStr {P : Program} {w : World} {ops : Array Oper} {o : Oper} {a : Act} {K : Act → World → Prop} {Q : Exit → Act → World → Prop} {E : Prop} (hgd : o.guard = none) (s x : Operand) (t u : TypeId)
    (ho : o.op = .call { callee := .builtin .append, args := #[s, x], argTypes := #[t, u] })
    (base e : TypeId) (ht : P.underlying t = some (.slice e)) (hu : P.underlying u = some .string) (hi : (P.info? e).map (fun i => (i.zero, i.size, i.bytes)) = some (some (bV 0), 1, 1))
    (v : Value) (xs : List UInt8) (hs : a.eval s = v) (hown : Own 1 eByte w base e v xs) (str : List UInt8) (hx : a.eval x = sV str)
    (h63 : xs.length + str.length ≤ lim) (hbase : base ≤ w.heap.size) (B : Nat) (A0 : World) (hbel : Below B A0 w) (hB : B ≤ base)
    (h : ∀ v' w', Hid (Own 1 eByte w' base e v' (xs ++ str)) → Hid (Below B A0 w') → Hid (∀ g o, w.heap[g]? = some o → v.ownBlock ≠ some g → w'.heap[g]? = some o) → K (a.put o.dst v') w') :
    if Region.wanted o (yielded ops a.tmps) = true then Oper.wp P o a w K Q else E := by
  have hw : Region.wanted o (yielded ops a.tmps) = true := by simp [Region.wanted, hgd]
  rw [if_pos hw]
  obtain ⟨i, hi1, hi2⟩ := Option.map_eq_some_iff.1 hi
  simp only [Prod.mk.injEq] at hi2
  obtain ⟨hz0, hz1, hz2⟩ := hi2
  obtain ⟨cs, hrow, hr⟩ := hown
  have hsz := sV_size str
  unfold lim at h63
  obtain ⟨v', w', hrun, ho2, hg, _⟩ := Lib.run_append_own_string (P := P) w base t u o.type e i ht hu hi1 hz0 hz1 hz2 v xs.length cs hrow ⟨str.toArray⟩ (by rw [hsz]; unfold maxLen; omega) (by rw [hsz]; omega) hbase
  unfold Oper.wp execOp
  simp only [ho, resolve, invoke, builtin, Sem.run_bind, Sem.run_pure, Result.andThen_ok, List.map_toArray, List.map_cons, List.map_nil, hs, hx, hrun]
  have hlen : cs.length = xs.length := by simpa using hrow.1
  refine h v' w' ⟨cs ++ Lib.strCells ⟨str.toArray⟩, by rw [List.length_append, ← hsz]; exact ho2, fun i y hy => ?_⟩ ((hbel.grown hg (Nat.le_trans hB hbase) fun k hk => Nat.le_trans hB (hrow.lt k hk).1)) (fun g o hgo hne => (hg.block g (Array.getElem?_eq_some_iff.1 hgo).1 (fun e => hne e.symm)).trans hgo)
  show (cs ++ Lib.strCells ⟨str.toArray⟩)[i * 1 + 0]? = _
  rw [Nat.mul_one, Nat.add_zero]
  rw [List.getElem?_append] at hy ⊢
  rw [hlen]
  split at hy
  · rename_i hlt
    rw [if_pos hlt]
    have := hr i y hy
    simpa [eByte] using this
  · rename_i hlt
    rw [if_neg hlt]
    unfold Lib.strCells
    simp [hy]
/-- A slice of two. -/
theorem sl_two {w : World} {S : Nat → Prop} {b : Nat} {t : TypeId} {A : Option Addr} {n c : Nat} {B : Option Addr} {m e : Nat} {x y : List UInt8} (hb : w.heap[b]? = some (.cells #[.slice A n c, .slice B m e] t (0, 0))) (hS : S b) (hx : Byt w S A n c x) (hy : Byt w S B m e y) : Sl 1 eBlock w S (some ⟨b, 0, none⟩) 2 [x, y] :=
  .lit hb hS rfl fun i z hz => by
    match i, hz with
    | 0, hz => obtain rfl : x = z := by simpa using hz
               exact ⟨A, n, c, by simp, hx.1, hx.2⟩
    | 1, hz => obtain rfl : y = z := by simpa using hz
               exact ⟨B, m, e, by simp, hy.1, hy.2⟩
    | i + 2, hz => simp at hz
theorem growDBytes_nil (w : World) (n : Nat) (hm : n * 1 ≤ lim) (h63 : n ≤ lim) :
    Calls Tryz.prog 118 #[.slice none 0 0, .int .i64 n] w fun e w' => ∃ v, e = .returned v ∧ Own 1 eByte w' w.heap.size 5 v ([] : List (UInt8)) ∧ Fr w w' := by
  obtain ⟨i0, hi0, hi1⟩ := Option.map_eq_some_iff.1 infoByte
  simp only [Prod.mk.injEq] at hi1
  obtain ⟨hz0, hz1, hz2⟩ := hi1
  unfold lim at h63 hm
  have h1 : ¬ ((n : Int) < 0) := by omega
  by_cases h0 : n = 0
  · subst h0
    clear hi0 hz0 hz1 hz2
    go_enter Tryz.func118, Tryz.ntmps118
    go_wp2
    go_ret
    exact ⟨_, rfl, Own.nil, Below.refl _ _⟩
  · have h4 : (n : Int) > 0 := by omega
    obtain ⟨G, hG⟩ : ∃ G, G = grownCap w n 0 5 := ⟨_, rfl⟩
    obtain ⟨cur, hcur⟩ : ∃ cur, cur = Builtin.zeroCells ((bV 0) : Value).cells n ++ Builtin.zeroCells ((bV 0) : Value).cells (G - n) := ⟨_, rfl⟩
    have hge := grownCap_ge w n 0 5
    have hle := grownCap_le_maxLen w n 0 5 (by unfold maxLen; omega)
    rw [← hG] at hge hle
    have hcs : cur.size = G * 1 := by
      rw [hcur, Array.size_append, size_zeroCells, size_zeroCells, ← Nat.add_mul]
      show (n + (G - n)) * 1 = G * 1
      congr 1; omega
    have hrz : Hid (∀ ty, (Builtin.append_ #[35, 3] ty #[.slice none 0 0, .int .i64 (n : Int)]).run Tryz.prog w = .ok (.slice (some ⟨w.heap.size, 0, none⟩) n G) (w.drew.alloc (.cells cur 5))) := fun ty => by
      have h := Lib.run_append_grow_zeros (P := Tryz.prog) w 35 3 ty 5 i0 (bV 0) .i64 .i64 Tryz.underlying35 Tryz.underlying3 hi0 hz0 Option.none 0 0 [] (run_firstCells_none w.drew i0.size 0 0 0) n (by omega) (by rw [hz1]; decide) (by omega) (by omega)
        (by rw [hz2]; omega) (by rw [hz2, Nat.zero_add]; exact growslice_fits (by omega) (by omega))
      rw [Nat.zero_add] at h
      rw [h, hcur, hG]
      simp
    have HO : Hid (Own 1 eByte (w.drew.alloc (.cells cur 5)) w.heap.size 5 (.slice (some ⟨w.heap.size, 0, none⟩) 0 G) ([] : List (UInt8))) :=
      ⟨[], ⟨by simp, .inr ⟨w.heap.size, G, cur, rfl, Nat.le_refl _, heap_alloc_new w.drew _, Nat.zero_le _, hle, hcs, by simp⟩⟩, fun i x h => by simp at h⟩
    clear hG hcur hle hcs hi0 hz0 hz1 hz2
    go_enter Tryz.func118, Tryz.ntmps118
    go_wp2_with (at_builtin; refine Lib.wpList_append_run _ rfl _ _ _ _ rfl _ _ rfl rfl _ _ (hrz.out _) ?_)
    go_ret
    exact ⟨_, rfl, HO.out, (Below.refl _ _).drew.alloc (Nat.le_refl _) _⟩

set_option maxHeartbeats 1000000 in
theorem concatDBytes_any (w : World) (A : Option Addr) (n c : Nat) (ls : List (List (UInt8))) (h : Sl 1 (eSl 1 1 eByte) w (LT w.heap.size) A n ls) (hm : n ≤ lim) (hs : lens ls * 1 ≤ lim) (hs1 : lens ls ≤ lim) :
    Calls Tryz.prog 70 #[.slice A n c] w fun e w' => ∃ v, e = .returned v ∧ Own 1 eByte w' w.heap.size 5 v ls.flatten ∧ Fr w w' := by
  obtain ⟨i0, hi0, _⟩ := Option.map_eq_some_iff.1 infoByte
  have hm1 := hm
  have hs2 := hs1
  unfold lim at hm1 hs2
  (have H := Lib.hid h; clear h; have Hi0 := Lib.hid hi0; clear hi0)
  go_enter Tryz.func70, Tryz.ntmps70
  go_wp2_with fail
  go_loop [3, 11] (fun s i => ∃ k : Nat, k ≤ n ∧ i = .int .i64 k ∧ s = .int .i64 (lens (ls.take k) : Nat)) (fun _ i => n - (intOf i).toNat)
  case atStart => exact ⟨0, Nat.zero_le _, rfl, by simp [lens]⟩
  case round =>
    obtain ⟨k, hk, rfl, rfl⟩ := hrel
    by_cases hlt : k < n
    · obtain ⟨ad, rfl, hE⟩ := H.out.els (by omega)
      obtain ⟨A', n', c', l, hl, hcl, hm', hc1, hc2, hsl⟩ := hE.slC hlt
      have h1 := lens_take_succ hl
      have h2 := lens_take_le ls (k + 1)
      rw [hsl.1] at h1
      obtain ⟨a, ha⟩ : ∃ a, a = lens (ls.take k) := ⟨_, rfl⟩
      obtain ⟨b, hb⟩ : ∃ b, b = lens (ls.take (k + 1)) := ⟨_, rfl⟩
      rw [← ha] at h1 ⊢
      rw [← hb] at h1 h2
      have hab : a + n' ≤ 140737488355328 := by omega
      have hneg : ¬ ((a : Int) + (n' : Int) < 0) := by omega
      have HB : Hid (b = a + n') := h1
      have HB2 := Lib.hid hb
      clear hl hsl h1 ha hb
      go_wp2_with fail
      go_round
      case rel => exact ⟨k + 1, by omega, by go_num, by rw [← HB2.out, HB.out]; go_num⟩
      case measure => simp [intOf]; omega
    · obtain rfl : k = n := by omega
      have ht : Hid (ls.take k = ls) := List.take_of_length_le (by rw [H.out.1]; exact Nat.le_refl _)
      rw [ht.out]
      obtain ⟨T, hT⟩ : ∃ T, T = lens ls := ⟨_, rfl⟩
      rw [← hT] at hs hs1 ⊢
      (have HT := Lib.hid hT; clear hT)
      go_wp2_with fail
      (with_reducible refine (growDBytes_nil _ T hs hs1).mono ?_)
      rintro e w1 ⟨v1, rfl, ho1, hf1⟩
      (have Ho1 := Lib.hid ho1; clear ho1; have Hf1 := Lib.hid hf1; clear hf1)
      go_wp2_with fail
      go_loopw [6, 27] (fun v i wr => ∃ j : Nat, j ≤ k ∧ i = .int .i64 j ∧ Hid (Own 1 eByte wr w.heap.size 5 v (ls.take j).flatten) ∧ Hid (Below w.heap.size w wr)) (fun _ i _ => k - (intOf i).toNat)
      case atStart => exact ⟨0, Nat.zero_le _, rfl, Ho1, Hf1⟩
      case round =>
        obtain ⟨j, hj, rfl, HO, HF⟩ := hrel
        by_cases hlt2 : j < k
        · obtain ⟨ad, rfl, hE⟩ := H.out.els (by omega)
          obtain ⟨A', n', c', l, hl, hcl, hm', hc1, hc2, hsl⟩ := hE.slC hlt2
          have hcw : wr.cell? (ad.add j) = some (.slice A' n' c') := (HF.out.cell (p := ad.add j) (by rw [block_of_add]; exact hE.2.1)).trans hcl
          have Hlen : Hid ((ls.take j).flatten.length + n' ≤ T) := by
            have h1 := lens_take_succ hl
            have h2 := lens_take_le ls (j + 1)
            rw [hsl.1] at h1
            have := HT.out
            rw [Hid, length_flatten_lens]; omega
          have HT2 : Hid ((ls.take (j + 1)).flatten = (ls.take j).flatten ++ l) := by rw [Hid, take_snoc' hl, List.flatten_append]; simp
          have HTb : Hid (T * 1 ≤ lim ∧ T ≤ lim) := ⟨hs, hs1⟩
          cases A' with
          | none =>
            have hn0 : n' = 0 := by
              rcases Nat.eq_zero_or_pos n' with h0 | h0
              · exact h0
              · obtain ⟨ad', e, _⟩ := hsl.2 h0; cases e
            subst hn0
            have hl0 : l = [] := List.eq_nil_of_length_eq_zero hsl.1
            subst hl0
            have HO3 : Hid (Own 1 eByte wr w.heap.size 5 u6 (ls.take (j + 1)).flatten) := by rw [HT2.out, List.append_nil]; exact HO.out
            clear hl hcl hsl
            go_wp2_with (at_builtin; refine wpList_apps_nil _ rfl _ _ 35 rfl w.heap.size 5 i0 Tryz.underlying35 Hi0.out _ _ c' rfl HO.out rfl ?_)
            go_roundw
            case rel => exact ⟨j + 1, by omega, by go_num, HO3, HF⟩
            case measure => simp [intOf]; omega
          | some adb =>
            obtain ⟨news, hnl, hnc, hn1, hnr⟩ : ∃ news : List Value, news.length = n' * 1 ∧ (∀ j u, news[j]? = some u → w.cell? (adb.add j) = some u ∧ adb.block < w.heap.size) ∧ (∀ u ∈ news, u.oneCell' = true) ∧ ∀ i x, l[i]? = some x → eByte w (LT w.heap.size) (fun j => news[i * 1 + j]?) x := by
              rcases Nat.eq_zero_or_pos n' with h0 | h0
              · have hl0 : l = [] := List.eq_nil_of_length_eq_zero (by rw [hsl.1]; exact h0)
                exact ⟨[], by simp [h0], fun j u hu => by simp at hu, fun u hu => by simp at hu, fun i x hx => by simp [hl0] at hx⟩
              · obtain ⟨ad', e, hE'⟩ := hsl.els h0
                injection e with e
                subst e
                obtain ⟨cs, k1, k2, k3, k4⟩ := hE'.cells fByte sByte (by decide)
                exact ⟨cs, k1, fun j u hu => ⟨k2 j u hu, hE'.2.1⟩, k3, k4⟩
            have hll := hsl.1
            have hfar : Hid (∀ b, b < w.heap.size → u6.ownBlock ≠ some b) := fun b hb => HO.out.far hb
            clear hl hcl hsl
            (have Hnl := Lib.hid hnl; clear hnl; have Hnc := Lib.hid hnc; clear hnc; have Hn1 := Lib.hid hn1; clear hn1; have Hnr := Lib.hid hnr; clear hnr; have Hll := Lib.hid hll; clear hll)
            go_wp2_with (at_builtin; refine wpList_apps _ rfl _ _ 35 rfl w.heap.size 5 _ _ _ Tryz.underlying35 infoByte rfl (by decide) sByte _ (ls.take j).flatten rfl HO.out adb n' c' news rfl Hnl.out ?c1 Hn1.out l Hll.out ?c3 ?c4 ?c5 ?c6 ?_)
            case c1 => intro i u hu; obtain ⟨k1, k2⟩ := Hnc.out i u hu; exact (HF.out.cell (by rw [block_of_add]; exact k2)).trans k1
            case c3 =>
              intro i x hx
              exact (sByte).more (S := LT w.heap.size) (fun b hb => ⟨Nat.lt_of_lt_of_le hb HF.out.size, hfar.out b hb⟩) ((sByte).keep (fun p hp => HF.out.cell hp) (Hnr.out i x hx))
            case c4 => have := Hlen.out; have q := HTb.out.2; unfold maxLen; unfold lim at q; omega
            case c5 => exact Nat.le_trans (Nat.mul_le_mul_right _ Hlen.out) HTb.out.1
            case c6 => exact HF.out.size
            · intro v' w3 ho3 hg3 hge3
              have HO3 : Hid (Own 1 eByte w3 w.heap.size 5 v' (ls.take (j + 1)).flatten) := by rw [HT2.out]; exact ho3
              have HF3 : Hid (Below w.heap.size w w3) := HF.out.grown hg3 HF.out.size hge3
              clear ho3 hg3 hge3
              go_wp2
              go_roundw
              case rel => exact ⟨j + 1, by omega, by go_num, HO3, HF3⟩
              case measure => simp [intOf]; omega
        · obtain rfl : j = k := by omega
          rw [ht.out] at HO
          go_wp2_with fail
          go_ret
          exact ⟨_, rfl, HO.out, HF.out⟩
/-- What a function of a disk leaves: bytes of its own. -/
def KPost (w : World) (X : Dk × Int) (r : Ending) (w' : World) : Prop := ∃ A n c B m e, r = .returned (.tuple #[.agg #[.slice A n c, .slice B m e], .int .i64 X.2]) ∧ Byt w' (NW w.heap.size w'.heap.size) A n c X.1.safe ∧ Byt w' (NW w.heap.size w'.heap.size) B m e X.1.wait ∧ Fr w w'
theorem kpost_err {w w' : World} {X : Dk × Int} {c : Int} (h : X = (Dk.zero, c)) (hf : Fr w w') : KPost w X (.returned (.tuple #[.agg #[.slice none 0 0, .slice none 0 0], .int .i64 c])) w' := by
  subst h
  exact ⟨none, 0, 0, none, 0, 0, rfl, byt_nil, byt_nil, hf⟩
/-- Bytes of one's own, as bytes in new blocks. -/
theorem Own.byt {w : World} {base : Nat} {e : TypeId} {v : Value} {l : List UInt8} (h : Own 1 eByte w base e v l) (hl : l.length ≤ lim) : ∃ A c, v = .slice A l.length c ∧ Byt w (NW base w.heap.size) A l.length c l := by
  obtain ⟨A, c, e, hc, hs⟩ := h.nwByt
  exact ⟨A, c, e, ⟨by omega, hc⟩, hs⟩
end Go.Proofs.YtmiaplgfbphfmaaGreatDoor
namespace Go.Proofs.YtmiaplgfbphfmaaGreatDoor

theorem dec_len7 : ∀ (k u : Nat), u < 10 ^ (k + 1) → (Lib.decDigits u).length ≤ k + 1
  | 0, u, h => by
    rw [Lib.decDigits, dif_pos (by simpa using h)]; simp
  | k + 1, u, h => by
    rw [Lib.decDigits]
    split
    · simp
    · have := dec_len7 k (u / 10) (by rw [Nat.pow_succ] at h; omega)
      simp only [List.length_append, List.length_singleton]; omega
theorem itoa_len7 {n : Int} (h : 0 ≤ n ∧ n ≤ 1000000) : (Lib.itoa n).length ≤ 7 := by
  unfold Lib.itoa
  rw [if_neg (by omega)]
  exact dec_len7 6 n.toNat (by omega)
theorem recText_len4 {r : Rc} (e : recCheck r = 0) : (recText r).length ≤ 10000 := by
  obtain ⟨h1, h2⟩ := recCheck_len e
  have := join_len 32 721 (recWords r) fun w hw => by
    unfold recWords at hw
    rcases List.mem_append.1 hw with hw | hw
    · obtain ⟨n, hn, rfl⟩ := List.mem_map.1 hw
      have := itoa_len7 (recInts_bd e n hn)
      omega
    · simp only [List.mem_cons, List.not_mem_nil, or_false] at hw
      rcases hw with rfl | rfl <;> simp only [List.length_cons, hexE_length] <;> omega
  rw [recWords_length] at this
  unfold recText
  omega
end Go.Proofs.YtmiaplgfbphfmaaGreatDoor
namespace Go.Proofs.YtmiaplgfbphfmaaGreatDoor
open Go.RowKit
attribute [local irreducible] wpList

theorem infoStr : (Tryz.prog.info? 9).map (fun i => (i.zero, i.size, i.bytes)) = some (some (.string ⟨#[]⟩), 1, 16) := by kernel_rfl
set_option maxRecDepth 100000 in
theorem idx11 (r : Rc) {k : Nat} (h : k < 11) : ∃ n, (recInts r)[k]? = some n ∧ ∀ W, (Instr.index 177 (.agg #[.int .i64 r.kind, .int .i64 r.place, .int .i64 r.n, .int .i64 r.try_, .int .i64 r.h.frm, .int .i64 r.h.seq, .int .i64 r.h.to, .int .i64 r.h.till, .int .i64 r.h.bytes, .int .i64 r.h.block, .int .i64 r.s.id]) (.int .i64 (k : Int))).run Tryz.prog W = .ok (.int .i64 n) W := by
  have : k = 0 ∨ k = 1 ∨ k = 2 ∨ k = 3 ∨ k = 4 ∨ k = 5 ∨ k = 6 ∨ k = 7 ∨ k = 8 ∨ k = 9 ∨ k = 10 := by omega
  rcases this with rfl | rfl | rfl | rfl | rfl | rfl | rfl | rfl | rfl | rfl | rfl <;> exact ⟨_, rfl, fun W => by kernel_rfl⟩
set_option maxRecDepth 100000 in
set_option maxHeartbeats 8000000 in
theorem notePrint_any (w : World) (v : Vars w) (r : Rc) (A : Option Addr) (na ca : Nat) (B : Option Addr) (nb cb : Nat) (hw : r.wf) (hA : Byt w (LT w.heap.size) A na ca r.s.data) (hB : Byt w (LT w.heap.size) B nb cb r.cargo) :
    Calls Tryz.prog 68 #[.agg #[.int .i64 r.kind, .int .i64 r.place, .int .i64 r.n, .int .i64 r.try_, .int .i64 r.h.frm, .int .i64 r.h.seq, .int .i64 r.h.to, .int .i64 r.h.till, .int .i64 r.h.bytes, .int .i64 r.h.block, .int .i64 r.s.id, .slice A na ca, .slice B nb cb]] w fun e w' => e = .returned (.tuple #[sV (printF r).1, .int .i64 (printF r).2]) ∧ Fr w w' := by
  obtain ⟨b, hb⟩ : ∃ b, b = w.heap.size := ⟨_, rfl⟩
  obtain ⟨W1, hW1⟩ : ∃ W1, W1 = w.alloc (.cells #[.int .i64 r.kind, .int .i64 r.place, .int .i64 r.n, .int .i64 r.try_, .int .i64 r.h.frm, .int .i64 r.h.seq, .int .i64 r.h.to, .int .i64 r.h.till, .int .i64 r.h.bytes, .int .i64 r.h.block, .int .i64 r.s.id, .slice A na ca, .slice B nb cb] 40) := ⟨_, rfl⟩
  have HR1 : Hid (W1.heap[b]? = some (.cells #[.int .i64 r.kind, .int .i64 r.place, .int .i64 r.n, .int .i64 r.try_, .int .i64 r.h.frm, .int .i64 r.h.seq, .int .i64 r.h.to, .int .i64 r.h.till, .int .i64 r.h.bytes, .int .i64 r.h.block, .int .i64 r.s.id, .slice A na ca, .slice B nb cb] 40 (0, 0))) := by rw [hW1]; exact heap_new hb
  have HF1 : Hid (Fr w W1) := by rw [hW1]; exact frAlloc _ _
  have hl1 := hA.2.1
  have hl2 := hB.2.1
  obtain ⟨ck, hck⟩ : ∃ ck, ck = recCheck r := ⟨_, rfl⟩
  have CK : Hid (Calls Tryz.prog 64 #[.agg #[.int .i64 r.kind, .int .i64 r.place, .int .i64 r.n, .int .i64 r.try_, .int .i64 r.h.frm, .int .i64 r.h.seq, .int .i64 r.h.to, .int .i64 r.h.till, .int .i64 r.h.bytes, .int .i64 r.h.block, .int .i64 r.s.id, .slice A na ca, .slice B nb cb]] W1 fun e w' => e = .returned (.int .i64 ck) ∧ Fr W1 w') := by rw [hck]; exact noteCheck_any W1 r A na ca B nb cb hw hl1 hl2
  have HCK := Lib.hid hck
  have HW := Lib.hid hw
  have HA := Lib.hid hA
  have HB := Lib.hid hB
  have HV := Lib.hid v
  have hrx := HR1.out
  (obtain ⟨bx0, bx1, bx2, bx3, bx4, bx5, bx6, bx7, bx8, bx9, bx10, bx11, bx12⟩ := box13_ hrx)
  clear hrx hck hw hA hB v
  go_enter Tryz.func68, Tryz.ntmps68
  go_wp2_with fail
  rw [← hW1, ← hb]
  have HBW := Lib.hid hb
  clear hW1 hb
  (with_reducible refine (CK.out).mono ?_)
  rintro e w2 ⟨rfl, hf2⟩
  have HR2 := Lib.hid (blk_go HR1.out hf2)
  have HF2 : Hid (Fr w w2) := HF1.out.trans hf2
  clear hf2 CK bx0 bx1 bx2 bx3 bx4 bx5 bx6 bx7 bx8 bx9 bx10 bx11 bx12 HR1 HF1
  by_cases h1 : ck = 0
  case neg =>
    have t1 : (ck != 0) = true := by simp [h1]
    have hp : Hid (printF r = ([], ck)) := by unfold printF; rw [← HCK.out, if_pos h1]; exact rfl
    clear h1
    go_wp2_with fail
    go_ret2
    rw [hp.out]
    exact ⟨rfl, HF2.out⟩
  case pos =>
  have t1 : (ck != 0) = false := by simp [h1]
  have hrl := recCheck_len (HCK.out.symm.trans h1)
  have hrt := recText_len (HCK.out.symm.trans h1)
  have hp : Hid (printF r = (recText r, 0)) := by unfold printF; rw [← HCK.out, if_neg (by simp [h1])]; exact rfl
  have HRT := Lib.hid hrt
  have hrx := HR2.out
  (obtain ⟨bx0, bx1, bx2, bx3, bx4, bx5, bx6, bx7, bx8, bx9, bx10, bx11, bx12⟩ := box13_ hrx)
  clear h1 hrx hrt
  go_upto_region 6 with fail
  obtain ⟨W3, hW3⟩ : ∃ W3, W3 = w2.alloc (.cells #[.int .i64 r.h.frm, .int .i64 r.h.seq, .int .i64 r.h.to, .int .i64 r.h.till, .int .i64 r.h.bytes, .int .i64 r.h.block] 34) := ⟨_, rfl⟩
  obtain ⟨z, hz⟩ : ∃ z, z = w2.heap.size := ⟨_, rfl⟩
  have hf3 : Fr w2 W3 := by rw [hW3]; exact frAlloc _ _
  have HF3 : Hid (Fr w W3) := HF2.out.trans hf3
  have hrx := blk_go HR2.out hf3
  have hzx : W3.heap[z]? = some (.cells #[.int .i64 r.h.frm, .int .i64 r.h.seq, .int .i64 r.h.to, .int .i64 r.h.till, .int .i64 r.h.bytes, .int .i64 r.h.block] 34 (0, 0)) := by rw [hW3]; exact heap_new hz
  rw [← hW3, ← hz]
  clear hW3 hz hf3 bx0 bx1 bx2 bx3 bx4 bx5 bx6 bx7 bx8 bx9 bx10 bx11 bx12 HF2 HR2
  have HR3 := Lib.hid hrx
  (obtain ⟨bx0, bx1, bx2, bx3, bx4, bx5, bx6, bx7, bx8, bx9, bx10, bx11, bx12⟩ := box13_ hrx)
  (obtain ⟨bz0, bz1, bz2, bz3, bz4, bz5⟩ := box6_ hzx)
  clear hrx hzx
  go_wp2_with fail
  clear bx0 bx1 bx2 bx3 bx4 bx5 bx6 bx7 bx8 bx9 bx10 bx11 bx12 bz0 bz1 bz2 bz3 bz4 bz5 t1
  obtain ⟨WL, hWL⟩ : ∃ WL, WL = (recInts r).map Lib.itoa := ⟨_, rfl⟩
  have hwl : WL.length = 11 := by rw [hWL, List.length_map]; rfl
  have HWL := Lib.hid hWL
  clear hWL
  go_loopw [6, 44] (fun s6 s44 wr => ∃ k : Nat, k ≤ 11 ∧ s44 = .int .i64 k ∧ Hid (Own 1 eStr wr W3.heap.size 9 s6 (WL.take k)) ∧ Hid (Fr W3 wr)) (fun _ i _ => 11 - (intOf i).toNat)
  case atStart => exact ⟨0, Nat.zero_le _, rfl, Own.nil, Below.refl _ _⟩
  case round =>
    obtain ⟨k, hk, rfl, HO, HF⟩ := hrel
    by_cases hlt : k < 11
    · obtain ⟨nk, hnk, hidx⟩ := idx11 r hlt
      have hwn := recInts_wf HW.out nk (List.mem_of_getElem? hnk)
      have IT : Hid (Calls Tryz.prog 115 #[.int .i64 nk] wr fun e w' => e = .returned (sV (Lib.itoa nk)) ∧ Fr wr w') := itoa_any wr (HV.out.go (HF3.out.trans HF.out)) nk hwn
      obtain ⟨LK, hLK⟩ : ∃ LK, LK = WL.take k := ⟨_, rfl⟩
      obtain ⟨TK, hTK⟩ : ∃ TK, TK = Lib.itoa nk := ⟨_, rfl⟩
      rw [← hLK] at HO
      rw [← hTK] at IT
      have hll : LK.length + 1 ≤ 12 := by rw [hLK, List.length_take]; omega
      have hLm : LK.length + 1 ≤ maxLen := by unfold maxLen; omega
      have hLs : (LK.length + 1) * 16 ≤ lim := by unfold lim; omega
      have e1 : LK ++ [TK] = WL.take (k + 1) := by
        rw [List.take_add_one, HWL.out, List.getElem?_map, hnk, hLK, HWL.out, hTK]; rfl
      have HE1 := Lib.hid e1
      clear hnk hwn hll e1 hLK hTK
      go_wp2_with fail
      (with_reducible refine (IT.out).mono ?_)
      rintro e w5 ⟨rfl, hf5⟩
      have HO5 : Hid (Own 1 eStr w5 W3.heap.size 9 u6 LK) := HO.out.fr sStr hf5
      have HF5 : Hid (Fr W3 w5) := HF.out.trans hf5
      have HFw5 : Hid (Fr w w5) := HF3.out.trans HF5.out
      have hyy : Hid (eStr w5 (fun b => b < w5.heap.size ∧ u6.ownBlock ≠ some b) (fun j => [sV TK][j]?) TK) := rfl
      have h63 : W3.heap.size ≤ w5.heap.size := HF5.out.size
      clear hf5 HO HF IT
      go_wp2_with (at_builtin; refine wpList_app1 rfl _ _ 176 rfl W3.heap.size 9 (.string ⟨#[]⟩) 16 Tryz.underlying176 infoStr rfl (by decide) sStr w5 (frAlloc _ _) _ LK rfl HO5.out w5.heap.size [sV TK] 9 (0, 0) rfl (heap_new rfl) rfl (by simp [Value.oneCell']) TK hyy.out hLm hLs W3.heap.size W3 HF5.out (Nat.le_refl _) h63 ?_)
      intro v' w7 HO7 HF7
      rw [HE1.out] at HO7
      go_wp2_with fail
      go_roundw
      case rel => exact ⟨k + 1, by omega, by go_num, HO7, HF7⟩
      case measure => simp [intOf]; omega
    · have hk' : k = 11 := by omega
      have HO' : Hid (Own 1 eStr wr W3.heap.size 9 u6 WL) := by
        have := HO.out
        rw [hk', List.take_of_length_le (by omega)] at this
        exact this
      have hrx := blk_go HR3.out HF.out
      (obtain ⟨bx0, bx1, bx2, bx3, bx4, bx5, bx6, bx7, bx8, bx9, bx10, bx11, bx12⟩ := box13_ hrx)
      clear hrx hk' HO
      go_wp2_with fail
      clear bx0 bx1 bx2 bx3 bx4 bx5 bx6 bx7 bx8 bx9 bx10 bx11 bx12
      obtain ⟨W6, hW6⟩ : ∃ W6, W6 = wr := ⟨_, rfl⟩
      rw [← hW6] at HO' HF
      rw [← hW6]
      clear hW6
      obtain ⟨WD, hWD⟩ : ∃ WD, WD = [45 :: hexE r.s.data, 45 :: hexE r.cargo] := ⟨_, rfl⟩
      have hwd : WD.length = 2 := by rw [hWD]; rfl
      have HWD := Lib.hid hWD
      clear hWD
      go_loopw [6, 59] (fun s6 s59 wx => ∃ k : Nat, k ≤ 2 ∧ s59 = .int .i64 k ∧ Hid (Own 1 eStr wx W3.heap.size 9 s6 (WL ++ WD.take k)) ∧ Hid (Fr W3 wx)) (fun _ i _ => 2 - (intOf i).toNat)
      case atStart => exact ⟨0, Nat.zero_le _, rfl, by simpa using HO', HF⟩
      case round =>
        obtain ⟨k, hk, rfl, HO, HF⟩ := hrel
        clear HO'
        by_cases hlt : k < 2
        · obtain ⟨Ak, nk, ck', dk, hidx, hbk, hnk, hdk⟩ : ∃ Ak nk ck' dk, (∀ W, (Instr.index 178 (.agg #[.slice A na ca, .slice B nb cb]) (.int .i64 (k : Int))).run Tryz.prog W = .ok (.slice Ak nk ck') W) ∧ Sl 1 eByte w (LT w.heap.size) Ak nk dk ∧ nk ≤ 1000000 ∧ WD[k]? = some (45 :: hexE dk) := by
            rw [HWD.out]
            have : k = 0 ∨ k = 1 := by omega
            rcases this with rfl | rfl
            · exact ⟨A, na, ca, r.s.data, fun W => by kernel_rfl, HA.out.2, by omega, rfl⟩
            · exact ⟨B, nb, cb, r.cargo, fun W => by kernel_rfl, HB.out.2, by omega, rfl⟩
          have DG : Hid (Calls Tryz.prog 116 #[.slice Ak nk ck'] wr fun e w' => e = .returned (sV (hexE dk)) ∧ Fr wr w') := noteDigits_any wr Ak nk ck' dk (hbk.go sByte (HF3.out.trans HF.out)) hnk
          obtain ⟨LK, hLK⟩ : ∃ LK, LK = WL ++ WD.take k := ⟨_, rfl⟩
          obtain ⟨TK, hTK⟩ : ∃ TK, TK = hexE dk := ⟨_, rfl⟩
          rw [← hLK] at HO
          rw [← hTK] at DG hdk
          have hll : LK.length + 1 ≤ 14 := by rw [hLK, List.length_append, List.length_take]; omega
          have hLm : LK.length + 1 ≤ maxLen := by unfold maxLen; omega
          have hLs : (LK.length + 1) * 16 ≤ lim := by unfold lim; omega
          have e1 : LK ++ [45 :: TK] = WL ++ WD.take (k + 1) := by
            rw [List.take_add_one, hdk, hLK, List.append_assoc]; rfl
          have hcat : (9223372036854775807 < 1 + TK.length) = False := by
            have h1 := hbk.1
            have h2 := hexE_length dk
            rw [← hTK] at h2
            exact eq_false (by omega)
          have HE1 := Lib.hid e1
          clear hbk hnk hdk hll e1 hLK hTK
          go_wp2_with fail
          (with_reducible refine (DG.out).mono ?_)
          rintro e w5 ⟨rfl, hf5⟩
          have HO5 : Hid (Own 1 eStr w5 W3.heap.size 9 u6 LK) := HO.out.fr sStr hf5
          have HF5 : Hid (Fr W3 w5) := HF.out.trans hf5
          have hyy : Hid (eStr w5 (fun b => b < w5.heap.size ∧ u6.ownBlock ≠ some b) (fun j => [Value.string (⟨#[45]⟩ ++ ⟨TK.toArray⟩)][j]?) (45 :: TK)) := by
            show some _ = some _
            rw [str_cons]
          have h63 : W3.heap.size ≤ w5.heap.size := HF5.out.size
          clear hf5 HO HF DG
          go_wp2_with (at_builtin; refine wpList_app1 rfl _ _ 176 rfl W3.heap.size 9 (.string ⟨#[]⟩) 16 Tryz.underlying176 infoStr rfl (by decide) sStr w5 (frAlloc _ _) u6 LK rfl HO5.out w5.heap.size [Value.string (⟨#[45]⟩ ++ ⟨TK.toArray⟩)] 9 (0, 0) rfl (heap_new rfl) rfl (by simp [Value.oneCell']) (45 :: TK) hyy.out hLm hLs W3.heap.size W3 HF5.out (Nat.le_refl _) h63 ?_)
          intro v' w7 HO7 HF7
          rw [HE1.out] at HO7
          go_wp2_with fail
          go_roundw
          case rel => exact ⟨k + 1, by omega, by go_num, HO7, HF7⟩
          case measure => simp [intOf]; omega
        · have hk' : k = 2 := by omega
          have ew : WL ++ WD.take k = recWords r := by rw [hk', List.take_of_length_le (by omega), HWL.out, HWD.out]; rfl
          have HO2 := HO.out
          rw [ew] at HO2
          have hrw : (recWords r).length = 13 := rfl
          obtain ⟨A5, c5, e5, ⟨hc5, hm5⟩, hs5⟩ := HO2.slC sStr (by decide)
          have hsp := HO2.spot e5
          have JN : Hid (Calls Tryz.prog 117 #[.slice A5 13 c5, sV [32]] wr fun e w' => e = .returned (sV (recText r)) ∧ Fr wr w') := join_any wr A5 13 c5 (recWords r) hs5 (by omega) (by omega) (by omega) hsp HRT.out
          rw [hrw] at e5
          subst e5
          clear hk' ew HO HO2 hrw hc5 hm5 hs5 hsp
          go_wp2_with fail
          (with_reducible refine (JN.out).mono ?_)
          rintro e w8 ⟨rfl, hf8⟩
          have HF8 : Hid (Fr w w8) := (HF3.out.trans HF.out).trans hf8
          clear hf8 JN
          go_wp2_with fail
          go_ret2
          rw [hp.out]
          exact ⟨rfl, HF8.out⟩
end Go.Proofs.YtmiaplgfbphfmaaGreatDoor
namespace Go.Proofs.YtmiaplgfbphfmaaGreatDoor
open Go.RowKit
attribute [local irreducible] wpList

set_option maxRecDepth 100000 in
set_option maxHeartbeats 8000000 in
theorem diskPut_any (w : World) (v : Vars w) (d : Dk) (r : Rc) (A : Option Addr) (n c : Nat) (B : Option Addr) (m e : Nat) (Ar : Option Addr) (na ca : Nat) (Br : Option Addr) (nb cb : Nat) (hA : Byt w (LT w.heap.size) A n c d.safe) (hB : Byt w (LT w.heap.size) B m e d.wait)
    (hw : r.wf) (hAr : Byt w (LT w.heap.size) Ar na ca r.s.data) (hBr : Byt w (LT w.heap.size) Br nb cb r.cargo) :
    Calls Tryz.prog 18 #[.agg #[.slice A n c, .slice B m e], .agg #[.int .i64 r.kind, .int .i64 r.place, .int .i64 r.n, .int .i64 r.try_, .int .i64 r.h.frm, .int .i64 r.h.seq, .int .i64 r.h.to, .int .i64 r.h.till, .int .i64 r.h.bytes, .int .i64 r.h.block, .int .i64 r.s.id, .slice Ar na ca, .slice Br nb cb]] w (KPost w (putF d r)) := by
  obtain ⟨X, hX⟩ : ∃ X, X = putF d r := ⟨_, rfl⟩
  rw [← hX]
  have hl := hA.2.1
  have hl2 := hB.2.1
  obtain ⟨W1, hW1⟩ : ∃ W1, W1 = ((w.alloc (.cells #[.slice A n c, .slice B m e] 43)).alloc (.cells #[.int .i64 r.kind, .int .i64 r.place, .int .i64 r.n, .int .i64 r.try_, .int .i64 r.h.frm, .int .i64 r.h.seq, .int .i64 r.h.to, .int .i64 r.h.till, .int .i64 r.h.bytes, .int .i64 r.h.block, .int .i64 r.s.id, .slice Ar na ca, .slice Br nb cb] 40)).alloc (.cells #[.slice none 0 0, .slice none 0 0] 43) := ⟨_, rfl⟩
  obtain ⟨p, hp⟩ : ∃ p, p = w.heap.size := ⟨_, rfl⟩
  obtain ⟨g, hg⟩ : ∃ g, g = w.heap.size + 1 := ⟨_, rfl⟩
  obtain ⟨q, hq⟩ : ∃ q, q = w.heap.size + 1 + 1 := ⟨_, rfl⟩
  have hp1 : W1.heap[p]? = some (.cells #[.slice A n c, .slice B m e] 43 (0, 0)) := by rw [hW1]; exact heap_old (heap_old (heap_new hp))
  have hg1 : W1.heap[g]? = some (.cells #[.int .i64 r.kind, .int .i64 r.place, .int .i64 r.n, .int .i64 r.try_, .int .i64 r.h.frm, .int .i64 r.h.seq, .int .i64 r.h.to, .int .i64 r.h.till, .int .i64 r.h.bytes, .int .i64 r.h.block, .int .i64 r.s.id, .slice Ar na ca, .slice Br nb cb] 40 (0, 0)) := by rw [hW1]; exact heap_old (heap_new (by rw [hg]; simp))
  have hq1 : W1.heap[q]? = some (.cells #[.slice none 0 0, .slice none 0 0] 43 (0, 0)) := by rw [hW1]; exact heap_new (by rw [hq]; simp)
  have HF1 : Hid (Fr w W1) := by rw [hW1]; exact ((frAlloc _ _).trans (frAlloc _ _)).trans (frAlloc _ _)
  have HQW := Lib.hid hq
  have HP1 := Lib.hid hp1
  have HG1 := Lib.hid hg1
  have HQ1 := Lib.hid hq1
  obtain ⟨ck, hck⟩ : ∃ ck, ck = diskCheck d := ⟨_, rfl⟩
  have CK : Hid (Calls Tryz.prog 67 #[.agg #[.slice A n c, .slice B m e]] W1 fun r w' => r = .returned (.int .i64 ck) ∧ Fr W1 w') := by rw [hck]; exact diskCheck_any W1 (v.go HF1.out) d A n c B m e (hA.go HF1.out) (hB.go HF1.out)
  have HV := Lib.hid v
  have HA := Lib.hid hA
  have HB := Lib.hid hB
  have HAr := Lib.hid hAr
  have HBr := Lib.hid hBr
  have HW := Lib.hid hw
  have HX := Lib.hid hX
  have HCK := Lib.hid hck
  (obtain ⟨bp0, bp1⟩ := box2_ hp1)
  clear hp1 hq1 hg1 hA hB hAr hBr hw hX hck v
  go_enter Tryz.func18, Tryz.ntmps18
  go_upto_region 1 with fail
  rw [← hW1, ← hq, ← hg, ← hp]
  have NE : q ≠ p := by omega
  clear hW1 hp hq hg
  go_wp2_with fail
  (with_reducible refine (CK.out).mono ?_)
  rintro rr w2 ⟨rfl, hf2⟩
  have HF2 : Hid (Fr w w2) := HF1.out.trans hf2
  have HP2 := Lib.hid (blk_go HP1.out hf2)
  have HG2 := Lib.hid (blk_go HG1.out hf2)
  have HQ2 := Lib.hid (blk_go HQ1.out hf2)
  clear hf2 CK HF1 HP1 HQ1 HG1 bp0 bp1
  by_cases h1 : ck = 0
  case neg =>
    have t1 : (ck != 0) = true := by simp [h1]
    have hx : Hid (X = (Dk.zero, ck)) := HX.out.trans (by unfold putF; rw [← HCK.out, if_pos h1])
    have hqx := HQ2.out
    (obtain ⟨bq0, bq1⟩ := box2_ hqx)
    have y0 := blk_free (i := 0) hqx
    have y1 := blk_free (i := 1) hqx
    have lq := (Array.getElem?_eq_some_iff.1 hqx).1
    clear h1 hqx
    go_wp2_with fail
    refine bodyPost_ret (v := .tuple #[.agg #[.slice none 0 0, .slice none 0 0], .int .i64 ck]) ?_ rfl (kpost_err hx.out (bel2_ HF2.out (by have := HQW.out; omega)))
    simp [results, Tryz.results18, go_sem, bq0, bq1, lq]
  case pos =>
  have t1 : (ck != 0) = false := by simp [h1]
  have HX2 : Hid (X = if recCheck r ≠ 0 then (Dk.zero, recCheck r) else if 60000 < d.safe.length + d.wait.length + (recText r).length + 1 then (Dk.zero, 2) else (⟨d.safe, d.wait ++ recText r ++ [10]⟩, 0)) := HX.out.trans (by unfold putF; rw [← HCK.out, if_neg (by simp [h1])])
  have hk := diskCheck_ok (HCK.out.symm.trans h1)
  have hsz := hk.size
  obtain ⟨rk, hrk⟩ : ∃ rk, rk = recCheck r := ⟨_, rfl⟩
  obtain ⟨ps, hps⟩ : ∃ ps, ps = (printF r).1 := ⟨_, rfl⟩
  have hpr : printF r = (ps, rk) := by
    rw [hps]
    unfold printF
    split
    · rw [← hrk]
    · rename_i h0; have h0 : recCheck r = 0 := by simpa using h0
      rw [hrk, h0]
  have PR : Hid (Calls Tryz.prog 68 #[.agg #[.int .i64 r.kind, .int .i64 r.place, .int .i64 r.n, .int .i64 r.try_, .int .i64 r.h.frm, .int .i64 r.h.seq, .int .i64 r.h.to, .int .i64 r.h.till, .int .i64 r.h.bytes, .int .i64 r.h.block, .int .i64 r.s.id, .slice Ar na ca, .slice Br nb cb]] w2 fun e w' => e = .returned (.tuple #[sV ps, .int .i64 rk]) ∧ Fr w2 w') := by
    have := notePrint_any w2 (HV.out.go HF2.out) r Ar na ca Br nb cb HW.out (HAr.out.go HF2.out) (HBr.out.go HF2.out)
    rw [hpr] at this
    exact this
  rw [← hrk] at HX2
  have HRK := Lib.hid hrk
  have HPS := Lib.hid hps
  have hgx := HG2.out
  (obtain ⟨bx0, bx1, bx2, bx3, bx4, bx5, bx6, bx7, bx8, bx9, bx10, bx11, bx12⟩ := box13_ hgx)
  clear h1 HX HCK hk hpr hgx hrk hps
  go_wp2_with fail
  (with_reducible refine (PR.out).mono ?_)
  rintro rr w4 ⟨rfl, hf4⟩
  have HF4 : Hid (Fr w w4) := HF2.out.trans hf4
  have HP4 := Lib.hid (blk_go HP2.out hf4)
  have HQ4 := Lib.hid (blk_go HQ2.out hf4)
  clear hf4 PR HF2 HP2 HQ2 HG2 bx0 bx1 bx2 bx3 bx4 bx5 bx6 bx7 bx8 bx9 bx10 bx11 bx12 t1
  have hpx := HP4.out
  have hqx := HQ4.out
  (obtain ⟨bp0, bp1⟩ := box2_ hpx)
  (obtain ⟨bq0, bq1⟩ := box2_ hqx)
  have y0 := blk_free (i := 0) hqx
  have y1 := blk_free (i := 1) hqx
  have lq := (Array.getElem?_eq_some_iff.1 hqx).1
  by_cases h2 : rk = 0
  case neg =>
    have t1 : (rk != 0) = true := by simp [h2]
    have hx : Hid (X = (Dk.zero, rk)) := HX2.out.trans (if_pos h2)
    clear h2 hqx hpx hsz HX2
    go_wp2_with fail
    refine bodyPost_ret (v := .tuple #[.agg #[.slice none 0 0, .slice none 0 0], .int .i64 rk]) ?_ rfl (kpost_err hx.out (bel2_ HF4.out (by have := HQW.out; omega)))
    simp [results, Tryz.results18, go_sem, bq0, bq1, lq]
  case pos =>
  have t1 : (rk != 0) = false := by simp [h2]
  have hpt : ps = recText r := by
    rw [HPS.out]
    unfold printF
    rw [if_neg (by rw [← HRK.out, h2]; simp)]
  have hpl : ps.length ≤ 10000 := by rw [hpt]; exact recText_len4 (HRK.out.symm.trans h2)
  obtain ⟨k, hk⟩ : ∃ k, k = ps.length := ⟨_, rfl⟩
  have HX3 : Hid (X = if 60000 < n + m + k + 1 then (Dk.zero, 2) else (⟨d.safe, d.wait ++ ps ++ [10]⟩, 0)) := HX2.out.trans (by rw [if_neg (by simp [h2]), hk, hpt, hl, hl2])
  rw [hl, hl2] at hsz
  rw [← hk] at hpl
  have hKs := Lib.hid hk
  clear h2 hpt HX2 HPS HRK
  have hw1 : IntKind.i64.wrap ((k : Int) + 1) = (k : Int) + 1 := by rw [IntKind.wrap_i64]; omega
  have hw2 : IntKind.i64.wrap ((60000 : Int) - (n : Int)) = (60000 : Int) - (n : Int) := by rw [IntKind.wrap_i64]; omega
  have hw3 : IntKind.i64.wrap ((60000 : Int) - (n : Int) - (m : Int)) = (60000 : Int) - (n : Int) - (m : Int) := by rw [IntKind.wrap_i64]; omega
  by_cases h3 : 60000 < n + m + k + 1
  · have t3 : decide ((60000 : Int) - (n : Int) - (m : Int) < (k : Int) + 1) = true := by simp; omega
    have hx : Hid (X = (Dk.zero, 2)) := HX3.out.trans (if_pos h3)
    rw [hk] at hw1 t3
    clear h3 hqx hpx HX3 hsz hpl hk
    go_wp2_with fail
    refine bodyPost_ret (v := .tuple #[.agg #[.slice none 0 0, .slice none 0 0], .int .i64 2]) ?_ rfl (kpost_err hx.out (bel2_ HF4.out (by have := HQW.out; omega)))
    simp [results, Tryz.results18, go_sem, bq0, bq1, lq]
  have t3 : decide ((60000 : Int) - (n : Int) - (m : Int) < (k : Int) + 1) = false := by simp; omega
  have hx : Hid (X = (⟨d.safe, d.wait ++ ps ++ [10]⟩, 0)) := HX3.out.trans (if_neg h3)
  have hlen : n + m + k + 1 ≤ 60000 := by omega
  have HLEN := Lib.hid hlen
  rw [hk] at hw1 t3
  clear h3 hqx hpx HX3 hsz hpl hk bq0 bq1 y0 y1 lq hlen
  go_wp2_with fail
  have hSC : Hid (∀ w', Fr w4 w' → w'.cell? ⟨p, 0, none⟩ = some (.slice A n c) ∧ w'.cell? ⟨p, 1, none⟩ = some (.slice B m e)) := fun w' hf => ⟨(hf.cell (World.block_lt_of_cell? w4 _ bp0)).trans bp0, (hf.cell (World.block_lt_of_cell? w4 _ bp1)).trans bp1⟩
  have C1 : Hid (∀ W, Fr w W → Calls Tryz.prog 69 #[.slice A n c] W fun r w' => ∃ u, r = .returned u ∧ Own 1 eByte w' W.heap.size 5 u d.safe ∧ Fr W w') := fun W hf => cloneBytes_any W A n c d.safe (HA.out.2.go sByte hf) HA.out.1.1
  have C2 : Hid (∀ W, Fr w W → Calls Tryz.prog 69 #[.slice B m e] W fun r w' => ∃ u, r = .returned u ∧ Own 1 eByte w' W.heap.size 5 u d.wait ∧ Fr W w') := fun W hf => cloneBytes_any W B m e d.wait (HB.out.2.go sByte hf) HB.out.1.1
  have hpw : d.wait.length + ps.length ≤ lim := by have := HLEN.out; have := hKs.out; unfold lim; omega
  have hpm : (d.wait ++ ps).length + 1 ≤ maxLen := by rw [List.length_append]; have := HLEN.out; have := hKs.out; unfold maxLen; omega
  have hpb : ((d.wait ++ ps).length + 1) * 1 ≤ lim := by rw [List.length_append]; have := HLEN.out; have := hKs.out; unfold lim; omega
  have H0 : Fr w4 w4.drew := (Below.refl _ _).drew
  refine held_begin (n := 13) (bs := #[false, false, false, false, false, false, false, false, false, false, false, false, false]) rfl rfl (by kernel_rfl) (S := fun w' => w'.cell? ⟨p, 0, none⟩ = some (.slice A n c) ∧ w'.cell? ⟨p, 1, none⟩ = some (.slice B m e)) (hSC.out _ (Below.refl _ _).drew) (fun hHeld => ?_)
  ((first | refine held_sk (i := 0) ?_ | refine held_tk (i := 0) ?_); (first | refine held_sk (i := 1) ?_ | refine held_tk (i := 1) ?_); (first | refine held_sk (i := 3) ?_ | refine held_tk (i := 3) ?_); (first | refine held_sk (i := 4) ?_ | refine held_tk (i := 4) ?_); (first | refine held_sk (i := 6) ?_ | refine held_tk (i := 6) ?_))
  refine held_two (i := 2) (j := 8) rfl rfl (by kernel_rfl) (fun K hK => ?_) (fun K hK => ?_)
  · skip
    go_simp
    go_at_call 69
    (with_reducible refine (C1.out _ (Fr.trans HF4.out H0)).mono ?_)
    rintro rr w5 ⟨u1, rfl, ho1, hf5⟩
    obtain ⟨A5, c5, rfl, hb5⟩ := ho1.byt (by rw [hl]; have := HA.out.1.1; omega)
    rw [hl] at hb5
    rw [hl]
    have hf45 : Fr w4 w5 := Fr.trans (H0) hf5
    have h45 := Below.size (H0)
    have HB5 : Hid (Byt w5 (NW w4.heap.size w5.heap.size) A5 n c5 d.safe) := ⟨hb5.1, hb5.2.more sByte fun x hx => ⟨Nat.le_trans h45 hx.1, hx.2⟩⟩
    have HF5 := Lib.hid hf5
    clear ho1 hf5 hb5 h45
    (refine held_back hK (a' := ?hA1) (l' := ?hL1) ?ha1 ?hl1 (hSC.out _ hf45) (fun hHeld => ?hh1); (case ha1 => first | with_reducible rfl | (simp only [Act.put, hq1, hq2, hq3, Option.isNone, Bool.not_true, Bool.not_false]; (try with_reducible rfl))); (case hl1 => (simp only [Act.put, hq1, hq2, hq3, Option.isNone, Bool.not_true, Bool.not_false]; (try with_reducible rfl))); clear hK K)
    refine held_two (i := 5) (j := 8) rfl rfl (by kernel_rfl) (fun K hK => ?_) (fun K hK => ?_)
    · skip
      go_simp
      go_at_call 69
      (with_reducible refine (C2.out _ (Fr.trans HF4.out hf45)).mono ?_)
      rintro rr w6 ⟨u2, rfl, ho2, hf6⟩
      have hf46 : Fr w4 w6 := Fr.trans (hf45) hf6
      have HO6 := Lib.hid ho2
      have HF6 := Lib.hid hf6
      clear ho2 hf6
      (refine held_back hK (a' := ?hA2) (l' := ?hL2) ?ha2 ?hl2 (hSC.out _ hf46) (fun hHeld => ?hh2); (case ha2 => first | with_reducible rfl | (simp only [Act.put, hq1, hq2, hq3, Option.isNone, Bool.not_true, Bool.not_false]; (try with_reducible rfl))); (case hl2 => (simp only [Act.put, hq1, hq2, hq3, Option.isNone, Bool.not_true, Bool.not_false]; (try with_reducible rfl))); clear hK K)
      refine held_two (i := 7) (j := 8) rfl rfl (by kernel_rfl) (fun K hK => ?_) (fun K hK => ?_)
      · have hf4c := hf45
        refine step_appStr rfl (.tmp 42) (.tmp 43) 35 9 rfl (Array.size (World.heap w5)) 5 Tryz.underlying35 Tryz.underlying9 infoByte _ d.wait rfl (HO6.out) ps rfl hpw (Below.size (HF6.out)) (Array.size (World.heap w5)) w5 (HF6.out) (Nat.le_refl _) ?_
        intro v7 w7 HO7 HF7 HK7
        (refine held_back hK (a' := ?hA3) (l' := ?hL3) ?ha3 ?hl3 (hSC.out _ (Fr.trans (hf45) HF7.out)) (fun hHeld => ?hh3); (case ha3 => first | with_reducible rfl | (simp only [Act.put, hq1, hq2, hq3, Option.isNone, Bool.not_true, Bool.not_false]; (try with_reducible rfl))); (case hl3 => (simp only [Act.put, hq1, hq2, hq3, Option.isNone, Bool.not_true, Bool.not_false]; (try with_reducible rfl))); clear hK K)
        refine held_one (i := 8) rfl (by kernel_rfl) (fun K hK => ?_)
        go_simp
        obtain ⟨w8, hw8⟩ : ∃ W : World, W = (World.alloc w7 (.cells #[.int .u8 10] 5)) := ⟨_, rfl⟩
        obtain ⟨y8, hy8⟩ : ∃ y : Nat, y = Array.size (World.heap w7) := ⟨_, rfl⟩
        rw [← hw8, ← hy8]
        have hk8 : w8.heap[y8]? = some (.cells #[.int .u8 10] 5 (0, 0)) := by rw [hw8]; first | exact heap_new hy8 | exact heap_d (heap_new hy8)
        have hf8 : Fr w7 w8 := by rw [hw8]; first | exact frAlloc _ _ | exact (frAlloc _ _).drew
        have hf48 : Fr w4 w8 := Fr.trans (Fr.trans hf45 HF7.out) hf8
        have HK8 := Lib.hid hk8
        have HF8 := Lib.hid hf8
        have HY8 := Lib.hid hy8
        clear hw8 hk8 hf8 hy8
        (refine held_back hK (a' := ?hA4) (l' := ?hL4) ?ha4 ?hl4 (hSC.out _ hf48) (fun hHeld => ?hh4); (case ha4 => first | with_reducible rfl | (simp only [Act.put, hq1, hq2, hq3, Option.isNone, Bool.not_true, Bool.not_false]; (try with_reducible rfl))); (case hl4 => (simp only [Act.put, hq1, hq2, hq3, Option.isNone, Bool.not_true, Bool.not_false]; (try with_reducible rfl))); clear hK K)
        refine held_one (i := 9) rfl (by kernel_rfl) (fun K hK => ?_)
        refine step_app1 rfl (.tmp 44) (.tmp 45) 35 rfl (Array.size (World.heap w5)) 5 (bV 0) 1 Tryz.underlying35 infoByte rfl (by decide) sByte _ (Below.refl _ _) v7 (d.wait ++ ps) rfl (HO7.out.fr sByte HF8.out) y8 [.int .u8 10] 5 (0, 0) rfl (HK8.out) rfl (by simp [Value.oneCell']) 10 rfl hpm hpb (Array.size (World.heap w5)) w5 (Fr.trans HF7.out HF8.out) (Nat.le_refl _) (Below.size (Fr.trans HF7.out HF8.out)) ?_
        intro v9 w9 HO9 HF9
        have hf49 : Fr w4 w9 := Fr.trans hf4c HF9.out
        obtain ⟨L, hL⟩ : ∃ L, L = d.wait ++ ps ++ [10] := ⟨_, rfl⟩
        have hLL : L.length ≤ lim := by rw [hL]; have := HLEN.out; have := hKs.out; simp only [List.length_append, List.length_cons, List.length_nil]; unfold lim; omega
        rw [← hL] at HO9 hx
        clear hL
        obtain ⟨A9, c9, rfl, hb9⟩ := HO9.out.byt hLL
        obtain ⟨N9, hN9⟩ : ∃ N9, N9 = L.length := ⟨_, rfl⟩
        rw [← hN9] at hb9 ⊢
        have h4c := Below.size hf4c
        have HB9 : Hid (Byt w9 (NW w4.heap.size w9.heap.size) A9 N9 c9 L) := ⟨hb9.1, hb9.2.more sByte fun x hx => ⟨Nat.le_trans h4c hx.1, hx.2⟩⟩
        have HB5' : Hid (Byt w9 (NW w4.heap.size w9.heap.size) A5 n c5 d.safe) := ⟨(HB5.out).1, ((HB5.out).2.keep sByte fun x hx => HF9.out.cell hx.2).more sByte fun x hx => ⟨hx.1, Nat.lt_of_lt_of_le hx.2 HF9.out.size⟩⟩
        have HF9' : Hid (Fr w w9) := HF4.out.trans hf49
        have hqx := blk_go HQ4.out hf49
        have hqw : q < w4.heap.size := (Array.getElem?_eq_some_iff.1 HQ4.out).1
        clear hb9 HO9 hLL hN9 h4c
        (refine held_back hK (a' := ?hA5) (l' := ?hL5) ?ha5 ?hl5 (hSC.out _ hf49) (fun hHeld => ?hh5); (case ha5 => first | with_reducible rfl | (simp only [Act.put, hq1, hq2, hq3, Option.isNone, Bool.not_true, Bool.not_false]; (try with_reducible rfl))); (case hl5 => (simp only [Act.put, hq1, hq2, hq3, Option.isNone, Bool.not_true, Bool.not_false]; (try with_reducible rfl))); clear hK K)
        ((first | refine held_sk (i := 10) ?_ | refine held_tk (i := 10) ?_))
        (obtain ⟨bq0, bq1⟩ := box2_ hqx)
        have y0 := blk_free (i := 0) hqx
        have y1 := blk_free (i := 1) hqx
        have lq := (Array.getElem?_eq_some_iff.1 hqx).1
        refine held_one (i := 11) rfl (by kernel_rfl) (fun K hK => ?_)
        go_simp
        (refine held_back hK (a' := ?hA6) (l' := ?hL6) ?ha6 ?hl6 (⟨(set2_far NE).trans (hSC.out _ hf49).1, (set2_far NE).trans (hSC.out _ hf49).2⟩) (fun hHeld => ?hh6); (case ha6 => first | with_reducible rfl | (simp only [Act.put, hq1, hq2, hq3, Option.isNone, Bool.not_true, Bool.not_false]; (try with_reducible rfl))); (case hl6 => (simp only [Act.put, hq1, hq2, hq3, Option.isNone, Bool.not_true, Bool.not_false]; (try with_reducible rfl))); clear hK K)
        ((first | refine held_sk (i := 12) ?_ | refine held_tk (i := 12) ?_))
        refine wpAnyH_done (by kernel_rfl) ?_ _
        have KEY : Hid (∀ W9, Chg (fun b => b = q) w9 W9 → Fr w W9 → KPost w X (.returned (.tuple #[.agg #[.slice A5 n c5, .slice A9 N9 c9], .int .i64 0])) W9) := by
          intro W9 hC hF
          have hs9 := hC.size
          have h2w := HF4.out.size
          have hkeep : ∀ {A : Option Addr} {n c : Nat} {l : List UInt8}, Byt w9 (NW w4.heap.size w9.heap.size) A n c l → Byt W9 (NW w.heap.size W9.heap.size) A n c l := fun h =>
            ⟨h.1, (h.2.chg sByte hC fun b hb => ⟨hb.2, fun e => by have e : b = q := e; have := hb.1; omega⟩).more sByte fun b hb => ⟨by have := hb.1; omega, by have := hb.2; omega⟩⟩
          rw [hx.out]
          exact ⟨A5, n, c5, A9, N9, c9, rfl, hkeep HB5'.out, hkeep HB9.out, hF⟩
        clear hqx
        go_wp2_with fail
        refine bodyPost_ret (v := .tuple #[.agg #[.slice A5 n c5, .slice A9 N9 c9], .int .i64 0]) ?_ rfl (KEY.out _ (Chg.of (grw2_ ⟨rfl, rfl, rfl, Nat.le_refl _, fun _ _ _ => rfl⟩)) (bel2_ HF9'.out (by have := HQW.out; omega)))
        simp [results, Tryz.results18, go_sem, bq0, bq1, lq]
      · have hf4c := hf45
        go_simp
        obtain ⟨w8, hw8⟩ : ∃ W : World, W = (World.alloc w6 (.cells #[.int .u8 10] 5)) := ⟨_, rfl⟩
        obtain ⟨y8, hy8⟩ : ∃ y : Nat, y = Array.size (World.heap w6) := ⟨_, rfl⟩
        rw [← hw8, ← hy8]
        have hk8 : w8.heap[y8]? = some (.cells #[.int .u8 10] 5 (0, 0)) := by rw [hw8]; first | exact heap_new hy8 | exact heap_d (heap_new hy8)
        have hf8 : Fr w6 w8 := by rw [hw8]; first | exact frAlloc _ _ | exact (frAlloc _ _).drew
        have hf48 : Fr w4 w8 := Fr.trans (hf46) hf8
        have HK8 := Lib.hid hk8
        have HF8 := Lib.hid hf8
        have HY8 := Lib.hid hy8
        clear hw8 hk8 hf8 hy8
        (refine held_back hK (a' := ?hA7) (l' := ?hL7) ?ha7 ?hl7 (hSC.out _ hf48) (fun hHeld => ?hh7); (case ha7 => first | with_reducible rfl | (simp only [Act.put, hq1, hq2, hq3, Option.isNone, Bool.not_true, Bool.not_false]; (try with_reducible rfl))); (case hl7 => (simp only [Act.put, hq1, hq2, hq3, Option.isNone, Bool.not_true, Bool.not_false]; (try with_reducible rfl))); clear hK K)
        refine held_one (i := 7) rfl (by kernel_rfl) (fun K hK => ?_)
        refine step_appStr rfl (.tmp 42) (.tmp 43) 35 9 rfl (Array.size (World.heap w5)) 5 Tryz.underlying35 Tryz.underlying9 infoByte _ d.wait rfl (HO6.out.fr sByte HF8.out) ps rfl hpw (Below.size (Fr.trans HF6.out HF8.out)) (Array.size (World.heap w5)) w5 (Fr.trans HF6.out HF8.out) (Nat.le_refl _) ?_
        intro v7 w7 HO7 HF7 HK7
        (refine held_back hK (a' := ?hA8) (l' := ?hL8) ?ha8 ?hl8 (hSC.out _ (Fr.trans (hf45) HF7.out)) (fun hHeld => ?hh8); (case ha8 => first | with_reducible rfl | (simp only [Act.put, hq1, hq2, hq3, Option.isNone, Bool.not_true, Bool.not_false]; (try with_reducible rfl))); (case hl8 => (simp only [Act.put, hq1, hq2, hq3, Option.isNone, Bool.not_true, Bool.not_false]; (try with_reducible rfl))); clear hK K)
        refine held_one (i := 9) rfl (by kernel_rfl) (fun K hK => ?_)
        have hk9 := HK7.out _ _ HK8.out fun e => by
          obtain ⟨cs, ho, _⟩ := HO6.out
          have h1 := (ho.lt _ e).2
          have h2 := HY8.out
          omega
        refine step_app1 rfl (.tmp 44) (.tmp 45) 35 rfl (Array.size (World.heap w5)) 5 (bV 0) 1 Tryz.underlying35 infoByte rfl (by decide) sByte _ (Below.refl _ _) v7 (d.wait ++ ps) rfl (HO7.out) y8 [.int .u8 10] 5 (0, 0) rfl (hk9) rfl (by simp [Value.oneCell']) 10 rfl hpm hpb (Array.size (World.heap w5)) w5 (HF7.out) (Nat.le_refl _) (Below.size (HF7.out)) ?_
        intro v9 w9 HO9 HF9
        have hf49 : Fr w4 w9 := Fr.trans hf4c HF9.out
        obtain ⟨L, hL⟩ : ∃ L, L = d.wait ++ ps ++ [10] := ⟨_, rfl⟩
        have hLL : L.length ≤ lim := by rw [hL]; have := HLEN.out; have := hKs.out; simp only [List.length_append, List.length_cons, List.length_nil]; unfold lim; omega
        rw [← hL] at HO9 hx
        clear hL
        obtain ⟨A9, c9, rfl, hb9⟩ := HO9.out.byt hLL
        obtain ⟨N9, hN9⟩ : ∃ N9, N9 = L.length := ⟨_, rfl⟩
        rw [← hN9] at hb9 ⊢
        have h4c := Below.size hf4c
        have HB9 : Hid (Byt w9 (NW w4.heap.size w9.heap.size) A9 N9 c9 L) := ⟨hb9.1, hb9.2.more sByte fun x hx => ⟨Nat.le_trans h4c hx.1, hx.2⟩⟩
        have HB5' : Hid (Byt w9 (NW w4.heap.size w9.heap.size) A5 n c5 d.safe) := ⟨(HB5.out).1, ((HB5.out).2.keep sByte fun x hx => HF9.out.cell hx.2).more sByte fun x hx => ⟨hx.1, Nat.lt_of_lt_of_le hx.2 HF9.out.size⟩⟩
        have HF9' : Hid (Fr w w9) := HF4.out.trans hf49
        have hqx := blk_go HQ4.out hf49
        have hqw : q < w4.heap.size := (Array.getElem?_eq_some_iff.1 HQ4.out).1
        clear hb9 HO9 hLL hN9 h4c
        (refine held_back hK (a' := ?hA9) (l' := ?hL9) ?ha9 ?hl9 (hSC.out _ hf49) (fun hHeld => ?hh9); (case ha9 => first | with_reducible rfl | (simp only [Act.put, hq1, hq2, hq3, Option.isNone, Bool.not_true, Bool.not_false]; (try with_reducible rfl))); (case hl9 => (simp only [Act.put, hq1, hq2, hq3, Option.isNone, Bool.not_true, Bool.not_false]; (try with_reducible rfl))); clear hK K)
        ((first | refine held_sk (i := 10) ?_ | refine held_tk (i := 10) ?_))
        (obtain ⟨bq0, bq1⟩ := box2_ hqx)
        have y0 := blk_free (i := 0) hqx
        have y1 := blk_free (i := 1) hqx
        have lq := (Array.getElem?_eq_some_iff.1 hqx).1
        refine held_one (i := 11) rfl (by kernel_rfl) (fun K hK => ?_)
        go_simp
        (refine held_back hK (a' := ?hA10) (l' := ?hL10) ?ha10 ?hl10 (⟨(set2_far NE).trans (hSC.out _ hf49).1, (set2_far NE).trans (hSC.out _ hf49).2⟩) (fun hHeld => ?hh10); (case ha10 => first | with_reducible rfl | (simp only [Act.put, hq1, hq2, hq3, Option.isNone, Bool.not_true, Bool.not_false]; (try with_reducible rfl))); (case hl10 => (simp only [Act.put, hq1, hq2, hq3, Option.isNone, Bool.not_true, Bool.not_false]; (try with_reducible rfl))); clear hK K)
        ((first | refine held_sk (i := 12) ?_ | refine held_tk (i := 12) ?_))
        refine wpAnyH_done (by kernel_rfl) ?_ _
        have KEY : Hid (∀ W9, Chg (fun b => b = q) w9 W9 → Fr w W9 → KPost w X (.returned (.tuple #[.agg #[.slice A5 n c5, .slice A9 N9 c9], .int .i64 0])) W9) := by
          intro W9 hC hF
          have hs9 := hC.size
          have h2w := HF4.out.size
          have hkeep : ∀ {A : Option Addr} {n c : Nat} {l : List UInt8}, Byt w9 (NW w4.heap.size w9.heap.size) A n c l → Byt W9 (NW w.heap.size W9.heap.size) A n c l := fun h =>
            ⟨h.1, (h.2.chg sByte hC fun b hb => ⟨hb.2, fun e => by have e : b = q := e; have := hb.1; omega⟩).more sByte fun b hb => ⟨by have := hb.1; omega, by have := hb.2; omega⟩⟩
          rw [hx.out]
          exact ⟨A5, n, c5, A9, N9, c9, rfl, hkeep HB5'.out, hkeep HB9.out, hF⟩
        clear hqx
        go_wp2_with fail
        refine bodyPost_ret (v := .tuple #[.agg #[.slice A5 n c5, .slice A9 N9 c9], .int .i64 0]) ?_ rfl (KEY.out _ (Chg.of (grw2_ ⟨rfl, rfl, rfl, Nat.le_refl _, fun _ _ _ => rfl⟩)) (bel2_ HF9'.out (by have := HQW.out; omega)))
        simp [results, Tryz.results18, go_sem, bq0, bq1, lq]
    · skip
      go_simp
      obtain ⟨w8, hw8⟩ : ∃ W : World, W = (World.alloc w5 (.cells #[.int .u8 10] 5)) := ⟨_, rfl⟩
      obtain ⟨y8, hy8⟩ : ∃ y : Nat, y = Array.size (World.heap w5) := ⟨_, rfl⟩
      rw [← hw8, ← hy8]
      have hk8 : w8.heap[y8]? = some (.cells #[.int .u8 10] 5 (0, 0)) := by rw [hw8]; first | exact heap_new hy8 | exact heap_d (heap_new hy8)
      have hf8 : Fr w5 w8 := by rw [hw8]; first | exact frAlloc _ _ | exact (frAlloc _ _).drew
      have hf48 : Fr w4 w8 := Fr.trans (hf45) hf8
      have HK8 := Lib.hid hk8
      have HF8 := Lib.hid hf8
      have HY8 := Lib.hid hy8
      clear hw8 hk8 hf8 hy8
      (refine held_back hK (a' := ?hA11) (l' := ?hL11) ?ha11 ?hl11 (hSC.out _ hf48) (fun hHeld => ?hh11); (case ha11 => first | with_reducible rfl | (simp only [Act.put, hq1, hq2, hq3, Option.isNone, Bool.not_true, Bool.not_false]; (try with_reducible rfl))); (case hl11 => (simp only [Act.put, hq1, hq2, hq3, Option.isNone, Bool.not_true, Bool.not_false]; (try with_reducible rfl))); clear hK K)
      have hf4c := hf48
      have HB8 : Hid (Byt w8 (NW w4.heap.size w8.heap.size) A5 n c5 d.safe) := ⟨HB5.out.1, (HB5.out.2.keep sByte fun x hx => HF8.out.cell hx.2).more sByte fun x hx => ⟨hx.1, Nat.lt_of_lt_of_le hx.2 HF8.out.size⟩⟩
      refine held_one (i := 5) rfl (by kernel_rfl) (fun K hK => ?_)
      go_simp
      go_at_call 69
      (with_reducible refine (C2.out _ (Fr.trans HF4.out hf48)).mono ?_)
      rintro rr w6 ⟨u2, rfl, ho2, hf6⟩
      have hf46 : Fr w4 w6 := Fr.trans (hf48) hf6
      have HO6 := Lib.hid ho2
      have HF6 := Lib.hid hf6
      clear ho2 hf6
      (refine held_back hK (a' := ?hA12) (l' := ?hL12) ?ha12 ?hl12 (hSC.out _ hf46) (fun hHeld => ?hh12); (case ha12 => first | with_reducible rfl | (simp only [Act.put, hq1, hq2, hq3, Option.isNone, Bool.not_true, Bool.not_false]; (try with_reducible rfl))); (case hl12 => (simp only [Act.put, hq1, hq2, hq3, Option.isNone, Bool.not_true, Bool.not_false]; (try with_reducible rfl))); clear hK K)
      refine held_one (i := 7) rfl (by kernel_rfl) (fun K hK => ?_)
      refine step_appStr rfl (.tmp 42) (.tmp 43) 35 9 rfl (Array.size (World.heap w8)) 5 Tryz.underlying35 Tryz.underlying9 infoByte _ d.wait rfl (HO6.out) ps rfl hpw (Below.size (HF6.out)) (Array.size (World.heap w8)) w8 (HF6.out) (Nat.le_refl _) ?_
      intro v7 w7 HO7 HF7 HK7
      (refine held_back hK (a' := ?hA13) (l' := ?hL13) ?ha13 ?hl13 (hSC.out _ (Fr.trans (hf48) HF7.out)) (fun hHeld => ?hh13); (case ha13 => first | with_reducible rfl | (simp only [Act.put, hq1, hq2, hq3, Option.isNone, Bool.not_true, Bool.not_false]; (try with_reducible rfl))); (case hl13 => (simp only [Act.put, hq1, hq2, hq3, Option.isNone, Bool.not_true, Bool.not_false]; (try with_reducible rfl))); clear hK K)
      refine held_one (i := 9) rfl (by kernel_rfl) (fun K hK => ?_)
      refine step_app1 rfl (.tmp 44) (.tmp 45) 35 rfl (Array.size (World.heap w8)) 5 (bV 0) 1 Tryz.underlying35 infoByte rfl (by decide) sByte _ (Below.refl _ _) v7 (d.wait ++ ps) rfl (HO7.out) y8 [.int .u8 10] 5 (0, 0) rfl (blk_go HK8.out HF7.out) rfl (by simp [Value.oneCell']) 10 rfl hpm hpb (Array.size (World.heap w8)) w8 (HF7.out) (Nat.le_refl _) (Below.size (HF7.out)) ?_
      intro v9 w9 HO9 HF9
      have hf49 : Fr w4 w9 := Fr.trans hf4c HF9.out
      obtain ⟨L, hL⟩ : ∃ L, L = d.wait ++ ps ++ [10] := ⟨_, rfl⟩
      have hLL : L.length ≤ lim := by rw [hL]; have := HLEN.out; have := hKs.out; simp only [List.length_append, List.length_cons, List.length_nil]; unfold lim; omega
      rw [← hL] at HO9 hx
      clear hL
      obtain ⟨A9, c9, rfl, hb9⟩ := HO9.out.byt hLL
      obtain ⟨N9, hN9⟩ : ∃ N9, N9 = L.length := ⟨_, rfl⟩
      rw [← hN9] at hb9 ⊢
      have h4c := Below.size hf4c
      have HB9 : Hid (Byt w9 (NW w4.heap.size w9.heap.size) A9 N9 c9 L) := ⟨hb9.1, hb9.2.more sByte fun x hx => ⟨Nat.le_trans h4c hx.1, hx.2⟩⟩
      have HB5' : Hid (Byt w9 (NW w4.heap.size w9.heap.size) A5 n c5 d.safe) := ⟨(HB8.out).1, ((HB8.out).2.keep sByte fun x hx => HF9.out.cell hx.2).more sByte fun x hx => ⟨hx.1, Nat.lt_of_lt_of_le hx.2 HF9.out.size⟩⟩
      have HF9' : Hid (Fr w w9) := HF4.out.trans hf49
      have hqx := blk_go HQ4.out hf49
      have hqw : q < w4.heap.size := (Array.getElem?_eq_some_iff.1 HQ4.out).1
      clear hb9 HO9 hLL hN9 h4c
      (refine held_back hK (a' := ?hA14) (l' := ?hL14) ?ha14 ?hl14 (hSC.out _ hf49) (fun hHeld => ?hh14); (case ha14 => first | with_reducible rfl | (simp only [Act.put, hq1, hq2, hq3, Option.isNone, Bool.not_true, Bool.not_false]; (try with_reducible rfl))); (case hl14 => (simp only [Act.put, hq1, hq2, hq3, Option.isNone, Bool.not_true, Bool.not_false]; (try with_reducible rfl))); clear hK K)
      ((first | refine held_sk (i := 10) ?_ | refine held_tk (i := 10) ?_))
      (obtain ⟨bq0, bq1⟩ := box2_ hqx)
      have y0 := blk_free (i := 0) hqx
      have y1 := blk_free (i := 1) hqx
      have lq := (Array.getElem?_eq_some_iff.1 hqx).1
      refine held_one (i := 11) rfl (by kernel_rfl) (fun K hK => ?_)
      go_simp
      (refine held_back hK (a' := ?hA15) (l' := ?hL15) ?ha15 ?hl15 (⟨(set2_far NE).trans (hSC.out _ hf49).1, (set2_far NE).trans (hSC.out _ hf49).2⟩) (fun hHeld => ?hh15); (case ha15 => first | with_reducible rfl | (simp only [Act.put, hq1, hq2, hq3, Option.isNone, Bool.not_true, Bool.not_false]; (try with_reducible rfl))); (case hl15 => (simp only [Act.put, hq1, hq2, hq3, Option.isNone, Bool.not_true, Bool.not_false]; (try with_reducible rfl))); clear hK K)
      ((first | refine held_sk (i := 12) ?_ | refine held_tk (i := 12) ?_))
      refine wpAnyH_done (by kernel_rfl) ?_ _
      have KEY : Hid (∀ W9, Chg (fun b => b = q) w9 W9 → Fr w W9 → KPost w X (.returned (.tuple #[.agg #[.slice A5 n c5, .slice A9 N9 c9], .int .i64 0])) W9) := by
        intro W9 hC hF
        have hs9 := hC.size
        have h2w := HF4.out.size
        have hkeep : ∀ {A : Option Addr} {n c : Nat} {l : List UInt8}, Byt w9 (NW w4.heap.size w9.heap.size) A n c l → Byt W9 (NW w.heap.size W9.heap.size) A n c l := fun h =>
          ⟨h.1, (h.2.chg sByte hC fun b hb => ⟨hb.2, fun e => by have e : b = q := e; have := hb.1; omega⟩).more sByte fun b hb => ⟨by have := hb.1; omega, by have := hb.2; omega⟩⟩
        rw [hx.out]
        exact ⟨A5, n, c5, A9, N9, c9, rfl, hkeep HB5'.out, hkeep HB9.out, hF⟩
      clear hqx
      go_wp2_with fail
      refine bodyPost_ret (v := .tuple #[.agg #[.slice A5 n c5, .slice A9 N9 c9], .int .i64 0]) ?_ rfl (KEY.out _ (Chg.of (grw2_ ⟨rfl, rfl, rfl, Nat.le_refl _, fun _ _ _ => rfl⟩)) (bel2_ HF9'.out (by have := HQW.out; omega)))
      simp [results, Tryz.results18, go_sem, bq0, bq1, lq]
  · skip
    go_simp
    obtain ⟨w8, hw8⟩ : ∃ W : World, W = (World.alloc w4 (.cells #[.int .u8 10] 5)).drew := ⟨_, rfl⟩
    obtain ⟨y8, hy8⟩ : ∃ y : Nat, y = Array.size (World.heap w4) := ⟨_, rfl⟩
    rw [← hw8, ← hy8]
    have hk8 : w8.heap[y8]? = some (.cells #[.int .u8 10] 5 (0, 0)) := by rw [hw8]; first | exact heap_new hy8 | exact heap_d (heap_new hy8)
    have hf8 : Fr w4 w8 := by rw [hw8]; first | exact frAlloc _ _ | exact (frAlloc _ _).drew
    have hf48 : Fr w4 w8 := Fr.trans (Below.refl _ _) hf8
    have HK8 := Lib.hid hk8
    have HF8 := Lib.hid hf8
    have HY8 := Lib.hid hy8
    clear hw8 hk8 hf8 hy8
    (refine held_back hK (a' := ?hA16) (l' := ?hL16) ?ha16 ?hl16 (hSC.out _ hf48) (fun hHeld => ?hh16); (case ha16 => first | with_reducible rfl | (simp only [Act.put, hq1, hq2, hq3, Option.isNone, Bool.not_true, Bool.not_false]; (try with_reducible rfl))); (case hl16 => (simp only [Act.put, hq1, hq2, hq3, Option.isNone, Bool.not_true, Bool.not_false]; (try with_reducible rfl))); clear hK K)
    refine held_one (i := 2) rfl (by kernel_rfl) (fun K hK => ?_)
    go_simp
    go_at_call 69
    (with_reducible refine (C1.out _ (Fr.trans HF4.out hf48)).mono ?_)
    rintro rr w5 ⟨u1, rfl, ho1, hf5⟩
    obtain ⟨A5, c5, rfl, hb5⟩ := ho1.byt (by rw [hl]; have := HA.out.1.1; omega)
    rw [hl] at hb5
    rw [hl]
    have hf45 : Fr w4 w5 := Fr.trans (hf48) hf5
    have h45 := Below.size (hf48)
    have HB5 : Hid (Byt w5 (NW w4.heap.size w5.heap.size) A5 n c5 d.safe) := ⟨hb5.1, hb5.2.more sByte fun x hx => ⟨Nat.le_trans h45 hx.1, hx.2⟩⟩
    have HF5 := Lib.hid hf5
    clear ho1 hf5 hb5 h45
    (refine held_back hK (a' := ?hA17) (l' := ?hL17) ?ha17 ?hl17 (hSC.out _ hf45) (fun hHeld => ?hh17); (case ha17 => first | with_reducible rfl | (simp only [Act.put, hq1, hq2, hq3, Option.isNone, Bool.not_true, Bool.not_false]; (try with_reducible rfl))); (case hl17 => (simp only [Act.put, hq1, hq2, hq3, Option.isNone, Bool.not_true, Bool.not_false]; (try with_reducible rfl))); clear hK K)
    have hf4c := hf45
    refine held_one (i := 5) rfl (by kernel_rfl) (fun K hK => ?_)
    go_simp
    go_at_call 69
    (with_reducible refine (C2.out _ (Fr.trans HF4.out hf45)).mono ?_)
    rintro rr w6 ⟨u2, rfl, ho2, hf6⟩
    have hf46 : Fr w4 w6 := Fr.trans (hf45) hf6
    have HO6 := Lib.hid ho2
    have HF6 := Lib.hid hf6
    clear ho2 hf6
    (refine held_back hK (a' := ?hA18) (l' := ?hL18) ?ha18 ?hl18 (hSC.out _ hf46) (fun hHeld => ?hh18); (case ha18 => first | with_reducible rfl | (simp only [Act.put, hq1, hq2, hq3, Option.isNone, Bool.not_true, Bool.not_false]; (try with_reducible rfl))); (case hl18 => (simp only [Act.put, hq1, hq2, hq3, Option.isNone, Bool.not_true, Bool.not_false]; (try with_reducible rfl))); clear hK K)
    refine held_one (i := 7) rfl (by kernel_rfl) (fun K hK => ?_)
    refine step_appStr rfl (.tmp 42) (.tmp 43) 35 9 rfl (Array.size (World.heap w5)) 5 Tryz.underlying35 Tryz.underlying9 infoByte _ d.wait rfl (HO6.out) ps rfl hpw (Below.size (HF6.out)) (Array.size (World.heap w5)) w5 (HF6.out) (Nat.le_refl _) ?_
    intro v7 w7 HO7 HF7 HK7
    (refine held_back hK (a' := ?hA19) (l' := ?hL19) ?ha19 ?hl19 (hSC.out _ (Fr.trans (hf45) HF7.out)) (fun hHeld => ?hh19); (case ha19 => first | with_reducible rfl | (simp only [Act.put, hq1, hq2, hq3, Option.isNone, Bool.not_true, Bool.not_false]; (try with_reducible rfl))); (case hl19 => (simp only [Act.put, hq1, hq2, hq3, Option.isNone, Bool.not_true, Bool.not_false]; (try with_reducible rfl))); clear hK K)
    refine held_one (i := 9) rfl (by kernel_rfl) (fun K hK => ?_)
    refine step_app1 rfl (.tmp 44) (.tmp 45) 35 rfl (Array.size (World.heap w5)) 5 (bV 0) 1 Tryz.underlying35 infoByte rfl (by decide) sByte _ (Below.refl _ _) v7 (d.wait ++ ps) rfl (HO7.out) y8 [.int .u8 10] 5 (0, 0) rfl (blk_go (blk_go HK8.out HF5.out) HF7.out) rfl (by simp [Value.oneCell']) 10 rfl hpm hpb (Array.size (World.heap w5)) w5 (HF7.out) (Nat.le_refl _) (Below.size (HF7.out)) ?_
    intro v9 w9 HO9 HF9
    have hf49 : Fr w4 w9 := Fr.trans hf4c HF9.out
    obtain ⟨L, hL⟩ : ∃ L, L = d.wait ++ ps ++ [10] := ⟨_, rfl⟩
    have hLL : L.length ≤ lim := by rw [hL]; have := HLEN.out; have := hKs.out; simp only [List.length_append, List.length_cons, List.length_nil]; unfold lim; omega
    rw [← hL] at HO9 hx
    clear hL
    obtain ⟨A9, c9, rfl, hb9⟩ := HO9.out.byt hLL
    obtain ⟨N9, hN9⟩ : ∃ N9, N9 = L.length := ⟨_, rfl⟩
    rw [← hN9] at hb9 ⊢
    have h4c := Below.size hf4c
    have HB9 : Hid (Byt w9 (NW w4.heap.size w9.heap.size) A9 N9 c9 L) := ⟨hb9.1, hb9.2.more sByte fun x hx => ⟨Nat.le_trans h4c hx.1, hx.2⟩⟩
    have HB5' : Hid (Byt w9 (NW w4.heap.size w9.heap.size) A5 n c5 d.safe) := ⟨(HB5.out).1, ((HB5.out).2.keep sByte fun x hx => HF9.out.cell hx.2).more sByte fun x hx => ⟨hx.1, Nat.lt_of_lt_of_le hx.2 HF9.out.size⟩⟩
    have HF9' : Hid (Fr w w9) := HF4.out.trans hf49
    have hqx := blk_go HQ4.out hf49
    have hqw : q < w4.heap.size := (Array.getElem?_eq_some_iff.1 HQ4.out).1
    clear hb9 HO9 hLL hN9 h4c
    (refine held_back hK (a' := ?hA20) (l' := ?hL20) ?ha20 ?hl20 (hSC.out _ hf49) (fun hHeld => ?hh20); (case ha20 => first | with_reducible rfl | (simp only [Act.put, hq1, hq2, hq3, Option.isNone, Bool.not_true, Bool.not_false]; (try with_reducible rfl))); (case hl20 => (simp only [Act.put, hq1, hq2, hq3, Option.isNone, Bool.not_true, Bool.not_false]; (try with_reducible rfl))); clear hK K)
    ((first | refine held_sk (i := 10) ?_ | refine held_tk (i := 10) ?_))
    (obtain ⟨bq0, bq1⟩ := box2_ hqx)
    have y0 := blk_free (i := 0) hqx
    have y1 := blk_free (i := 1) hqx
    have lq := (Array.getElem?_eq_some_iff.1 hqx).1
    refine held_one (i := 11) rfl (by kernel_rfl) (fun K hK => ?_)
    go_simp
    (refine held_back hK (a' := ?hA21) (l' := ?hL21) ?ha21 ?hl21 (⟨(set2_far NE).trans (hSC.out _ hf49).1, (set2_far NE).trans (hSC.out _ hf49).2⟩) (fun hHeld => ?hh21); (case ha21 => first | with_reducible rfl | (simp only [Act.put, hq1, hq2, hq3, Option.isNone, Bool.not_true, Bool.not_false]; (try with_reducible rfl))); (case hl21 => (simp only [Act.put, hq1, hq2, hq3, Option.isNone, Bool.not_true, Bool.not_false]; (try with_reducible rfl))); clear hK K)
    ((first | refine held_sk (i := 12) ?_ | refine held_tk (i := 12) ?_))
    refine wpAnyH_done (by kernel_rfl) ?_ _
    have KEY : Hid (∀ W9, Chg (fun b => b = q) w9 W9 → Fr w W9 → KPost w X (.returned (.tuple #[.agg #[.slice A5 n c5, .slice A9 N9 c9], .int .i64 0])) W9) := by
      intro W9 hC hF
      have hs9 := hC.size
      have h2w := HF4.out.size
      have hkeep : ∀ {A : Option Addr} {n c : Nat} {l : List UInt8}, Byt w9 (NW w4.heap.size w9.heap.size) A n c l → Byt W9 (NW w.heap.size W9.heap.size) A n c l := fun h =>
        ⟨h.1, (h.2.chg sByte hC fun b hb => ⟨hb.2, fun e => by have e : b = q := e; have := hb.1; omega⟩).more sByte fun b hb => ⟨by have := hb.1; omega, by have := hb.2; omega⟩⟩
      rw [hx.out]
      exact ⟨A5, n, c5, A9, N9, c9, rfl, hkeep HB5'.out, hkeep HB9.out, hF⟩
    clear hqx
    go_wp2_with fail
    refine bodyPost_ret (v := .tuple #[.agg #[.slice A5 n c5, .slice A9 N9 c9], .int .i64 0]) ?_ rfl (KEY.out _ (Chg.of (grw2_ ⟨rfl, rfl, rfl, Nat.le_refl _, fun _ _ _ => rfl⟩)) (bel2_ HF9'.out (by have := HQW.out; omega)))
    simp [results, Tryz.results18, go_sem, bq0, bq1, lq]
end Go.Proofs.YtmiaplgfbphfmaaGreatDoor
