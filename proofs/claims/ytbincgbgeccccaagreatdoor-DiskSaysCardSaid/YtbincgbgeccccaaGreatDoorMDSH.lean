/- The two words of bytes that the reference reads into a box of two slices. No condition; no function in sight. -/
import Derived.Test.YtbincgbgeccccaaGreatDoorStr
import Derived.Test.YtbincgbgeccccaaGreatDoorTextP
import Derived.Test.YtbincgbgeccccaaGreatDoorNParse
import Derived.Deep.DeepCutAuto
import Derived.Deep.Cut
import Derived.Laws.BytesArg
import Derived.Test.YtbincgbgeccccaaGreatDoorOwn
import Derived.Test.YtbincgbgeccccaaGreatDoorConcat
import Derived.Test.YtbincgbgeccccaaGreatDoorHeld
import Derived.Lib.AppendStr
import Derived.Laws.AppendOwnNone
import Derived.Lib.AppendZerosOnto
import Derived.Test.YtbincgbgeccccaaGreatDoorRChk
import Derived.Test.YtbincgbgeccccaaGreatDoorNDig
import Derived.Test.YtbincgbgeccccaaGreatDoorTextC
import Derived.Test.YtbincgbgeccccaaGreatDoorBox
import Derived.Test.YtbincgbgeccccaaGreatDoorCallV
import Derived.Lib.ParseIntBTie
import Derived.Test.YtbincgbgeccccaaGreatDoorNByt
set_option linter.unusedSimpArgs false
set_option linter.unusedVariables false
namespace Go.Proofs.YtbincgbgeccccaaGreatDoor
open Go.RowKit

theorem cut_any (w : World) (v : Vars w) (c : UInt8) (l : List UInt8) (hl : l.length ≤ 1000000) :
    Calls Tryz.prog 32 #[sV l, sV [c]] w fun e w' => e = .returned (.tuple #[sV (Lib.cut l [c]).1, sV (Lib.cut l [c]).2.1, .bool (Lib.cut l [c]).2.2]) ∧ Fr w w' := by
  obtain ⟨m, hm⟩ := v.mx
  have hs := sV_size l
  refine (Tryz.strings_Cut ⟨l.toArray⟩ ⟨#[c]⟩ m w (by omega) hm).mono ?_
  rintro e w' ⟨rfl, n, rfl⟩
  exact ⟨rfl, frDrewN _ _⟩
/-- What it cuts. -/
theorem cut_cases (c : UInt8) (l : List UInt8) : (c ∉ l ∧ Lib.cut l [c] = (l, [], false) ∧ pieces c l = [l]) ∨ ∃ a b, l = a ++ c :: b ∧ c ∉ a ∧ Lib.cut l [c] = (a, b, true) ∧ pieces c l = a :: pieces c b := by
  have hi := Lib.index_one l c
  have hge := Lib.indexByte_ge l c
  by_cases hm : Lib.indexByte l c = -1
  · have h1 := indexByte_miss hm
    refine .inl ⟨h1, ?_, pieces_miss c l h1⟩
    unfold Lib.cut
    rw [hi, hm, if_neg (by omega)]
  · obtain ⟨o, ho⟩ := Int.eq_ofNat_of_zero_le (show 0 ≤ Lib.indexByte l c by omega)
    obtain ⟨h2, h3, h4⟩ := indexByte_split ho
    refine .inr ⟨l.take o, l.drop (o + 1), h4, h3, ?_, ?_⟩
    · unfold Lib.cut
      rw [hi, ho, if_pos (by omega), Int.toNat_natCast]; rfl
    · conv => lhs; rw [h4, pieces_hit c _ _ h3]
end Go.Proofs.YtbincgbgeccccaaGreatDoor
namespace Go.Proofs.YtbincgbgeccccaaGreatDoor

/-- A disk. -/
structure Dk where
  safe : List UInt8
  wait : List UInt8
deriving DecidableEq
def Dk.zero : Dk := ⟨[], []⟩
def linesGo (most : Nat) : List Rc → Nat → List (List UInt8) → List Rc × Nat × Int
  | acc, n, [] => (acc, n, 0)
  | acc, n, [last] => if last = [] then (acc, n, 0) else (acc, n, 9)
  | acc, n, l :: x :: ls => if (parseF l).2 ≠ 0 then (acc, n, (parseF l).2) else if acc.length = most then (acc, n, 2) else linesGo most (acc ++ [(parseF l).1]) (n + (l.length + 1)) (x :: ls)
/-- What disk.lines answers: the records that are whole, how many bytes these have, what is wrong with the next one. -/
def linesF (most : Nat) (s : List UInt8) : List Rc × Nat × Int := linesGo most [] 0 (pieces 10 s)
def diskCheck (d : Dk) : Int := if 60000 < d.safe.length ∨ 60000 < d.safe.length + d.wait.length then 2 else (linesF 200 d.safe).2.2
def putF (d : Dk) (r : Rc) : Dk × Int :=
  if diskCheck d ≠ 0 then (Dk.zero, diskCheck d) else if recCheck r ≠ 0 then (Dk.zero, recCheck r)
  else if 60000 < d.safe.length + d.wait.length + (recText r).length + 1 then (Dk.zero, 2) else (⟨d.safe, d.wait ++ recText r ++ [10]⟩, 0)
def syncF (d : Dk) : Dk × Int :=
  if diskCheck d ≠ 0 then (Dk.zero, diskCheck d) else if diskCheck ⟨d.safe ++ d.wait, []⟩ ≠ 0 then (Dk.zero, diskCheck ⟨d.safe ++ d.wait, []⟩) else (⟨d.safe ++ d.wait, []⟩, 0)
def crashF (d : Dk) (n : Int) : Dk × Int :=
  if diskCheck d ≠ 0 then (Dk.zero, diskCheck d) else if n < 0 ∨ (d.wait.length : Int) < n then (Dk.zero, 3) else (⟨d.safe, d.wait.take n.toNat⟩, 0)
def recoverF (d : Dk) : (Dk × List Rc) × Int :=
  if diskCheck d ≠ 0 then ((Dk.zero, []), diskCheck d)
  else ((⟨d.safe ++ d.wait.take (linesF (200 - (linesF 200 d.safe).1.length) d.wait).2.1, []⟩, (linesF 200 d.safe).1 ++ (linesF (200 - (linesF 200 d.safe).1.length) d.wait).1), 0)

/-- The text of records. -/
def logText (rs : List Rc) : List UInt8 := rs.flatMap fun r => recText r ++ [10]
theorem logText_nil : logText [] = [] := rfl
theorem logText_cons (r : Rc) (rs : List Rc) : logText (r :: rs) = recText r ++ 10 :: logText rs := by
  unfold logText; rw [List.flatMap_cons, List.append_assoc]; rfl
theorem logText_append (a b : List Rc) : logText (a ++ b) = logText a ++ logText b := by
  unfold logText; rw [List.flatMap_append]
theorem logText_snoc (a : List Rc) (r : Rc) : logText (a ++ [r]) = logText a ++ recText r ++ [10] := by
  rw [logText_append, logText_cons, logText_nil, List.append_assoc]
theorem parse_text {r : Rc} (h : recCheck r = 0) (hl : (recText r).length ≤ 60000) : parseF (recText r) = (r, 0) := by
  unfold parseF; rw [if_neg (by omega)]; exact read_print h
theorem pieces_log (t : List UInt8) (ht : (10 : UInt8) ∉ t) : ∀ rs : List Rc, pieces 10 (logText rs ++ t) = rs.map recText ++ [t]
  | [] => by rw [logText_nil, List.nil_append, pieces_miss 10 t ht]; rfl
  | r :: rs => by
    rw [logText_cons, List.append_assoc, List.cons_append, pieces_hit 10 _ _ (recText_line r), pieces_log t ht rs]; rfl
theorem linesGo_log {most : Nat} (t : List UInt8) : ∀ (rs acc : List Rc) (n : Nat), (∀ r ∈ rs, recCheck r = 0) → (∀ r ∈ rs, (recText r).length ≤ 60000) → acc.length + rs.length ≤ most →
    linesGo most acc n (rs.map recText ++ [t]) = (acc ++ rs, n + (logText rs).length, if t = [] then 0 else 9)
  | [], acc, n, _, _, _ => by
    simp only [List.map_nil, List.nil_append, List.append_nil, logText_nil, List.length_nil, Nat.add_zero, linesGo]
    split <;> rfl
  | r :: rs, acc, n, h, hl, hm => by
    have hp := parse_text (h r List.mem_cons_self) (hl r List.mem_cons_self)
    simp only [List.length_cons] at hm
    have ih := linesGo_log (most := most) t rs (acc ++ [r]) (n + ((recText r).length + 1)) (fun x hx => h x (List.mem_cons_of_mem _ hx)) (fun x hx => hl x (List.mem_cons_of_mem _ hx)) (by simp only [List.length_append, List.length_singleton]; omega)
    rw [List.map_cons, List.cons_append]
    cases hq : rs.map recText ++ [t] with
    | nil => simp at hq
    | cons x ls =>
      rw [hq] at ih
      rw [linesGo, hp, if_neg (by simp), if_neg (by omega), ih, logText_cons]
      simp only [List.append_assoc, List.singleton_append, List.length_append, List.length_cons, Prod.mk.injEq, true_and, and_true]
      omega
theorem lines_log {most : Nat} {rs : List Rc} {t : List UInt8} (h : ∀ r ∈ rs, recCheck r = 0) (hl : (logText rs).length ≤ 60000) (hm : rs.length ≤ most) (ht : (10 : UInt8) ∉ t) : linesF most (logText rs ++ t) = (rs, (logText rs).length, if t = [] then 0 else 9) := by
  unfold linesF
  rw [pieces_log t ht, linesGo_log t rs [] 0 h (fun r hr => ?_) (by simpa using hm)]
  · simp
  · refine Nat.le_trans ?_ hl
    obtain ⟨a, b, rfl⟩ := List.append_of_mem hr
    rw [logText_append, logText_cons, List.length_append, List.length_append]
    omega
theorem lines_full {most : Nat} {rs : List Rc} (h : ∀ r ∈ rs, recCheck r = 0) (hl : (logText rs).length ≤ 60000) (hm : rs.length ≤ most) : linesF most (logText rs) = (rs, (logText rs).length, 0) := by
  have := lines_log (most := most) (t := []) h hl hm (by simp)
  rw [List.append_nil] at this
  exact this
/-- What lines tells of a text. -/
structure LinesOk (most : Nat) (s : List UInt8) (rs : List Rc) (n : Nat) (e : Int) : Prop where
  good : ∀ r ∈ rs, recCheck r = 0
  text : logText rs = s.take n
  le : n ≤ s.length
  many : rs.length ≤ most
  full : e = 0 → n = s.length
theorem parseF_ok {s : List UInt8} (h : (parseF s).2 = 0) : recText (parseF s).1 = s ∧ recCheck (parseF s).1 = 0 := by
  unfold parseF at h ⊢
  split
  · rename_i h1; rw [if_pos h1] at h; exact absurd h (by decide)
  · rename_i h1
    rw [if_neg h1] at h
    exact print_read (r := (recRead s).1) (Prod.ext rfl h)
theorem linesGo_ok {most : Nat} (c : UInt8 → Prop) : ∀ (ws : List (List UInt8)) (acc : List Rc) (n : Nat) (s : List UInt8), ws ≠ [] → Lib.join ws [10] = s → acc.length ≤ most →
    ∃ rs m, (linesGo most acc n ws).1 = acc ++ rs ∧ (linesGo most acc n ws).2.1 = n + m ∧ LinesOk (most - acc.length) s rs m (linesGo most acc n ws).2.2
  | [], _, _, _, h, _, _ => absurd rfl h
  | [last], acc, n, s, _, hs, hm => by
    rw [Lib.join_one] at hs
    subst hs
    refine ⟨[], 0, ?_, ?_, ⟨by simp, by simp [logText_nil], Nat.zero_le _, by simp, fun h => ?_⟩⟩
    · rw [linesGo]; split <;> simp
    · rw [linesGo]; split <;> rfl
    · rw [linesGo] at h
      split at h
      · rename_i e; rw [e]; rfl
      · exact absurd (show (9 : Int) = 0 from h) (by decide)
  | l :: x :: ls, acc, n, s, _, hs, hm => by
    rw [join_cons2, List.append_assoc, List.singleton_append] at hs
    rw [linesGo]
    split
    · rename_i h1
      exact ⟨[], 0, by simp, rfl, ⟨by simp, by simp [logText_nil], Nat.zero_le _, by simp, fun h => absurd h h1⟩⟩
    · rename_i h1
      split
      · exact ⟨[], 0, by simp, rfl, ⟨by simp, by simp [logText_nil], Nat.zero_le _, by simp, fun h => absurd (show (2 : Int) = 0 from h) (by decide)⟩⟩
      · rename_i h2
        simp only [ne_eq, Decidable.not_not] at h1
        obtain ⟨t1, t2⟩ := parseF_ok h1
        obtain ⟨rs, m, e1, e2, h3, h4, h5, h6, h7⟩ := linesGo_ok (most := most) c (x :: ls) (acc ++ [(parseF l).1]) (n + (l.length + 1)) _ (by simp) rfl (by simp only [List.length_append, List.length_singleton]; omega)
        refine ⟨(parseF l).1 :: rs, l.length + 1 + m, by rw [e1]; simp, by rw [e2]; omega, ⟨fun r hr => ?_, ?_, ?_, ?_, fun h => ?_⟩⟩
        · rcases List.mem_cons.1 hr with rfl | hr
          · exact t2
          · exact h3 r hr
        · rw [logText_cons, t1, h4, ← hs, List.take_append, List.take_of_length_le (l := l) (i := l.length + 1 + m) (by omega), show l.length + 1 + m - l.length = m + 1 by omega, List.take_succ_cons]
        · rw [← hs, List.length_append, List.length_cons]; omega
        · simp only [List.length_append, List.length_singleton] at h6
          simp only [List.length_cons]; omega
        · have := h7 h
          rw [← hs, List.length_append, List.length_cons]; omega
theorem linesF_ok (most : Nat) (s : List UInt8) : LinesOk most s (linesF most s).1 (linesF most s).2.1 (linesF most s).2.2 := by
  obtain ⟨rs, m, e1, e2, h⟩ := linesGo_ok (most := most) (fun _ => True) (pieces 10 s) [] 0 s (pieces_ne 10 s) (join_pieces 10 s) (Nat.zero_le _)
  unfold linesF
  rw [e1, e2]
  simpa using h
/-- A right disk: a log, and what waits. -/
structure DkOk (d : Dk) (rs : List Rc) : Prop where
  good : ∀ r ∈ rs, recCheck r = 0
  safe : d.safe = logText rs
  many : rs.length ≤ 200
  size : d.safe.length + d.wait.length ≤ 60000
theorem diskCheck_ok {d : Dk} (h : diskCheck d = 0) : DkOk d (linesF 200 d.safe).1 := by
  unfold diskCheck at h
  split at h
  · cases h
  · rename_i h1
    have hl := linesF_ok 200 d.safe
    have hf := hl.full h
    refine ⟨hl.good, ?_, hl.many, by omega⟩
    rw [hl.text, hf, List.take_length]
theorem DkOk.lines {d : Dk} {rs : List Rc} (h : DkOk d rs) : linesF 200 d.safe = (rs, d.safe.length, 0) := by
  have := h.size
  rw [h.safe] at this ⊢
  exact lines_full h.good (by omega) h.many
theorem DkOk.check {d : Dk} {rs : List Rc} (h : DkOk d rs) : diskCheck d = 0 := by
  unfold diskCheck
  have := h.size
  rw [if_neg (by omega), h.lines]
theorem diskCheck_iff {d : Dk} : diskCheck d = 0 ↔ ∃ rs, DkOk d rs := ⟨fun h => ⟨_, diskCheck_ok h⟩, fun ⟨_, h⟩ => h.check⟩
theorem DkOk.uniq {d : Dk} {a b : List Rc} (h : DkOk d a) (k : DkOk d b) : a = b := by
  have h1 := h.lines
  rw [k.lines] at h1
  exact (Prod.mk.inj h1).1.symm
theorem linesF_le {most : Nat} {s : List UInt8} : (linesF most s).2.1 ≤ s.length := (linesF_ok most s).le
end Go.Proofs.YtbincgbgeccccaaGreatDoor
namespace Go.Proofs.YtbincgbgeccccaaGreatDoor
open Go.RowKit
attribute [local irreducible] wpList

theorem infoRec : (Tryz.prog.info? 33).map (fun i => (i.zero, i.size, i.bytes)) = some (some (.agg #[.int .i64 0, .int .i64 0, .int .i64 0, .int .i64 0, .int .i64 0, .int .i64 0, .int .i64 0, .int .i64 0, .int .i64 0, .int .i64 0, .int .i64 0, .slice none 0 0, .slice none 0 0]), 13, 136) := by kernel_rfl
def strN : Value → Nat
  | .string s => s.size
  | _ => 0
theorem linesGo_cut (most : Nat) (acc : List Rc) (n : Nat) (a b : List UInt8) : linesGo most acc n (a :: pieces 10 b) = if (parseF a).2 ≠ 0 then (acc, n, (parseF a).2) else if acc.length = most then (acc, n, 2) else linesGo most (acc ++ [(parseF a).1]) (n + (a.length + 1)) (pieces 10 b) := by
  cases h : pieces 10 b with
  | nil => exact absurd h (pieces_ne 10 b)
  | cons x ls => rw [linesGo]
/-- note.Parse, its record told by its cells, in new blocks. -/
theorem parse_outN {w w' : World} {x : Rc} {xe : Int} {e : Ending} (h : RPost w (x, xe) e w') : ∃ B n c B2 n2 c2, e = .returned (.tuple #[.agg #[.int .i64 x.kind, .int .i64 x.place, .int .i64 x.n, .int .i64 x.try_, .int .i64 x.h.frm, .int .i64 x.h.seq, .int .i64 x.h.to, .int .i64 x.h.till, .int .i64 x.h.bytes, .int .i64 x.h.block, .int .i64 x.s.id, .slice B n c, .slice B2 n2 c2], .int .i64 xe]) ∧ x.wf ∧ Byt w' (NW w.heap.size w'.heap.size) B n c x.s.data ∧ Byt w' (NW w.heap.size w'.heap.size) B2 n2 c2 x.cargo ∧ Fr w w' := h
theorem eRc_cells {w : World} {S : Nat → Prop} {x : Rc} {B : Option Addr} {n c : Nat} {B2 : Option Addr} {n2 c2 : Nat} (hw : x.wf) (h1 : Byt w S B n c x.s.data) (h2 : Byt w S B2 n2 c2 x.cargo) : eRc w S (fun j => ([.int .i64 x.kind, .int .i64 x.place, .int .i64 x.n, .int .i64 x.try_, .int .i64 x.h.frm, .int .i64 x.h.seq, .int .i64 x.h.to, .int .i64 x.h.till, .int .i64 x.h.bytes, .int .i64 x.h.block, .int .i64 x.s.id, .slice B n c, .slice B2 n2 c2] : List Value)[j]?) x :=
  eRc_iff.2 ⟨B, n, c, B2, n2, c2, ⟨rfl, rfl, rfl, rfl, rfl, rfl, rfl, rfl, rfl, rfl, rfl, rfl, rfl⟩, hw, h1, h2⟩
/-- A reading off the blocks from N on. -/
def eNew {α : Type} (N : Nat) (r : ERd α) : ERd α := fun w S f x => r w (fun b => S b ∧ N ≤ b) f x
theorem Stable.newer {α : Type} {size : Nat} {r : ERd α} (s : Stable size r) (N : Nat) : Stable size (eNew N r) :=
  ⟨fun hk h => s.keep (fun p hp => hk p hp.1) h, fun hB h => s.more (fun b hb => ⟨hB b hb.1, hb.2⟩) h, fun hf h => s.mono hf h⟩
theorem Full.newer {α : Type} {size : Nat} {r : ERd α} (F : Full size r) (N : Nat) : Full size (eNew N r) := fun h j hj => F h j hj
/-- What disk.lines leaves. -/
def LPost (w : World) (X : List Rc × Nat × Int) (e : Ending) (w' : World) : Prop := ∃ v, e = .returned (.tuple #[v, .int .i64 X.2.1, .int .i64 X.2.2]) ∧ Own 13 (eNew w.heap.size eRc) w' w.heap.size 33 v X.1 ∧ Fr w w'
set_option maxRecDepth 100000 in
set_option maxHeartbeats 16000000 in
theorem lines_any (w : World) (v : Vars w) (s : List UInt8) (hs : s.length ≤ 60000) (most : Nat) (hm : most ≤ 200) :
    Calls Tryz.prog 21 #[sV s, .int .i64 most] w (LPost w (linesF most s)) := by
  obtain ⟨X, hX⟩ : ∃ X, X = linesF most s := ⟨_, rfl⟩
  rw [← hX]
  have HX0 : Hid (X = linesGo most [] (s.length - s.length) (pieces 10 s)) := by rw [Hid, hX, Nat.sub_self]; rfl
  have HV := Lib.hid v
  clear v hX
  go_enter Tryz.func21, Tryz.ntmps21
  go_wp2_with fail
  go_loopw [0, 7] (fun s0 s7 wr => ∃ (S : List UInt8) (acc : List Rc), s0 = sV S ∧ Hid (Own 13 (eNew w.heap.size eRc) wr w.heap.size 33 s7 acc) ∧ Hid (Fr w wr) ∧ S.length ≤ s.length ∧ acc.length ≤ most ∧ Hid (X = linesGo most acc (s.length - S.length) (pieces 10 S))) (fun i _ _ => strN i)
  case atStart => exact ⟨s, [], rfl, Own.nil, Below.refl _ _, Nat.le_refl _, Nat.zero_le _, HX0⟩
  case round =>
    obtain ⟨S, acc, rfl, HO, HF, hSl, hal, HX⟩ := hrel
    clear HX0
    obtain ⟨A, c, rfl, ⟨hac, hcm⟩, _⟩ := HO.out.slC (sRc.newer _) (by decide)
    have hsub : ((s.length : Int) - (S.length : Int)) = ((s.length - S.length : Nat) : Int) := by omega
    by_cases hS : S = []
    · have t1 : S.isEmpty = true := by simp [hS]
      have hx : Hid (X = (acc, s.length, 0)) := HX.out.trans (by rw [hS]; simp [pieces, linesGo])
      clear hS HX hsub
      go_wp2_with fail
      refine bodyPost_ret (v := .tuple #[.slice A acc.length c, .int .i64 (s.length : Int), .int .i64 0]) ?_ rfl ?_
      · simp [results, Tryz.results21, go_sem]
      · rw [hx.out]
        exact ⟨_, rfl, HO.out, HF.out⟩
    have t1 : S.isEmpty = false := by simp [hS]
    go_wp2_with fail
    (with_reducible refine (cut_any wr (HV.out.go HF.out) 10 S (by omega)).mono ?_)
    rintro e w4 ⟨rfl, hf4⟩
    have HF4 : Hid (Fr w w4) := HF.out.trans hf4
    have HO4 : Hid (Own 13 (eNew w.heap.size eRc) w4 w.heap.size 33 (.slice A acc.length c) acc) := HO.out.fr (sRc.newer _) hf4
    clear hf4 HF HO
    rcases cut_cases 10 S with ⟨_, hcut, hpc⟩ | ⟨a, b, hSab, _, hcut, hpc⟩
    · have hx : Hid (X = (acc, s.length - S.length, 9)) := HX.out.trans (by rw [hpc, linesGo, if_neg hS])
      rw [hcut]
      clear hcut hpc hS HX
      go_wp2_with fail
      refine bodyPost_ret (v := .tuple #[.slice A acc.length c, .int .i64 ((s.length - S.length : Nat) : Int), .int .i64 9]) ?_ rfl ?_
      · simp [results, Tryz.results21, go_sem]
      · rw [hx.out]
        exact ⟨_, rfl, HO4.out, HF4.out⟩
    · obtain ⟨x, xe, hps⟩ : ∃ x xe, parseF a = (x, xe) := ⟨_, _, rfl⟩
      have hSl2 : S.length = a.length + (b.length + 1) := by rw [hSab]; simp
      have hb60 : a.length ≤ 60000 := by omega
      have HXB : Hid (X = if xe ≠ 0 then (acc, s.length - S.length, xe) else if acc.length = most then (acc, s.length - S.length, 2) else linesGo most (acc ++ [x]) (s.length - b.length) (pieces 10 b)) := by
        rw [Hid, HX.out, hpc, linesGo_cut, hps, show s.length - S.length + (a.length + 1) = s.length - b.length by omega]
      have CP : Hid (Calls Tryz.prog 33 #[sV a] w4 (RPost w4 (x, xe))) := by rw [← hps]; exact noteParse_any w4 (HV.out.go HF4.out) a (by unfold lim; omega)
      rw [hcut]
      have HSL2 := Lib.hid hSl2
      clear hcut hpc hS HX hps hSab hb60 hSl2
      go_wp2_with fail
      (with_reducible refine (CP.out).mono ?_)
      rintro e w5 h5
      obtain ⟨D, n, dc, D2, n2, dc2, rfl, hwx, hd, hd2, hf5⟩ := parse_outN h5
      have HF5 : Hid (Fr w w5) := HF4.out.trans hf5
      have HO5 : Hid (Own 13 (eNew w.heap.size eRc) w5 w.heap.size 33 (.slice A acc.length c) acc) := HO4.out.fr (sRc.newer _) hf5
      have HD := Lib.hid hd
      have HD2 := Lib.hid hd2
      have HWX := Lib.hid hwx
      have h4w : w.heap.size ≤ w4.heap.size := HF4.out.size
      have HFAR : Hid (∀ k, NW w4.heap.size w5.heap.size k → k < w5.heap.size ∧ (Value.slice A acc.length c).ownBlock ≠ some k ∧ w.heap.size ≤ k) := by
        intro k hk
        refine ⟨hk.2, fun e => ?_, Nat.le_trans h4w hk.1⟩
        obtain ⟨cs, ho, _⟩ := HO4.out
        have := (ho.lt k e).2
        have := hk.1
        omega
      clear h5 hwx hd hd2 hf5 CP HF4 HO4
      go_upto_region 8 with fail
      obtain ⟨y, hy⟩ : ∃ y, y = w5.heap.size := ⟨_, rfl⟩
      obtain ⟨W6, hW6⟩ : ∃ W6, W6 = w5.alloc (.cells #[.int .i64 x.kind, .int .i64 x.place, .int .i64 x.n, .int .i64 x.try_, .int .i64 x.h.frm, .int .i64 x.h.seq, .int .i64 x.h.to, .int .i64 x.h.till, .int .i64 x.h.bytes, .int .i64 x.h.block, .int .i64 x.s.id, .slice D n dc, .slice D2 n2 dc2] 33) := ⟨_, rfl⟩
      rw [← hW6, ← hy]
      have hy6 : W6.heap[y]? = some (.cells #[.int .i64 x.kind, .int .i64 x.place, .int .i64 x.n, .int .i64 x.try_, .int .i64 x.h.frm, .int .i64 x.h.seq, .int .i64 x.h.to, .int .i64 x.h.till, .int .i64 x.h.bytes, .int .i64 x.h.block, .int .i64 x.s.id, .slice D n dc, .slice D2 n2 dc2] 33 (0, 0)) := by rw [hW6]; exact heap_new hy
      have hf6 : Fr w5 W6 := by rw [hW6]; exact frAlloc _ _
      have HF6 : Hid (Fr w W6) := HF5.out.trans hf6
      have HF56 := Lib.hid hf6
      have HO6 : Hid (Own 13 (eNew w.heap.size eRc) W6 w.heap.size 33 (.slice A acc.length c) acc) := HO5.out.fr (sRc.newer _) hf6
      clear hy hW6 hf6 HF5 HO5
      by_cases hxe : xe = 0
      case neg =>
        have t2 : (xe != 0) = true := by simp [hxe]
        have hx : Hid (X = (acc, s.length - S.length, xe)) := HXB.out.trans (if_pos hxe)
        clear hxe HXB hy6
        go_wp2_with fail
        refine bodyPost_ret (v := .tuple #[.slice A acc.length c, .int .i64 ((s.length - S.length : Nat) : Int), .int .i64 xe]) ?_ rfl ?_
        · simp [results, Tryz.results21, go_sem]
        · rw [hx.out]
          exact ⟨_, rfl, HO6.out, HF6.out⟩
      case pos =>
      have t2 : (xe != 0) = false := by simp [hxe]
      have HXC := Lib.hid (HXB.out.trans (if_neg (fun h => h hxe)))
      clear hxe HXB
      by_cases hfull : acc.length = most
      case pos =>
        have t3 : ((acc.length : Int) == (most : Int)) = true := by simp only [beq_iff_eq]; omega
        have hx : Hid (X = (acc, s.length - S.length, 2)) := HXC.out.trans (if_pos hfull)
        clear hfull HXC hy6
        go_wp2_with fail
        refine bodyPost_ret (v := .tuple #[.slice A acc.length c, .int .i64 ((s.length - S.length : Nat) : Int), .int .i64 2]) ?_ rfl ?_
        · simp [results, Tryz.results21, go_sem]
        · rw [hx.out]
          exact ⟨_, rfl, HO6.out, HF6.out⟩
      case neg =>
      have t3 : ((acc.length : Int) == (most : Int)) = false := by simp only [beq_eq_false_iff_ne]; omega
      have hx : Hid (X = linesGo most (acc ++ [x]) (s.length - b.length) (pieces 10 b)) := HXC.out.trans (if_neg hfull)
      have hrc : Hid (eNew w.heap.size eRc W6 (fun b => b < W6.heap.size ∧ (Value.slice A acc.length c).ownBlock ≠ some b) (fun j => ([.int .i64 x.kind, .int .i64 x.place, .int .i64 x.n, .int .i64 x.try_, .int .i64 x.h.frm, .int .i64 x.h.seq, .int .i64 x.h.to, .int .i64 x.h.till, .int .i64 x.h.bytes, .int .i64 x.h.block, .int .i64 x.s.id, .slice D n dc, .slice D2 n2 dc2] : List Value)[j]?) x) := by
        have hS6 := HF56.out.size
        have hk : ∀ {B : Option Addr} {n c' : Nat} {l : List UInt8}, Byt w5 (NW w4.heap.size w5.heap.size) B n c' l → Byt W6 (fun b => (b < W6.heap.size ∧ (Value.slice A acc.length c).ownBlock ≠ some b) ∧ w.heap.size ≤ b) B n c' l := fun h =>
          ⟨h.1, (h.2.keep sByte fun p hp => HF56.out.cell hp.2).more sByte fun k hk => ⟨⟨Nat.lt_of_lt_of_le (HFAR.out k hk).1 hS6, (HFAR.out k hk).2.1⟩, (HFAR.out k hk).2.2⟩⟩
        exact eRc_cells HWX.out (hk HD.out) (hk HD2.out)
      have hLm : acc.length + 1 ≤ maxLen := by unfold maxLen; omega
      have hLs : (acc.length + 1) * 136 ≤ lim := by unfold lim; omega
      have hbb := HF6.out.size
      have hone : Hid (∀ u ∈ ([.int .i64 x.kind, .int .i64 x.place, .int .i64 x.n, .int .i64 x.try_, .int .i64 x.h.frm, .int .i64 x.h.seq, .int .i64 x.h.to, .int .i64 x.h.till, .int .i64 x.h.bytes, .int .i64 x.h.block, .int .i64 x.s.id, .slice D n dc, .slice D2 n2 dc2] : List Value), u.oneCell' = true) := by simp [Hid, Value.oneCell']
      have hal2 : acc.length + 1 ≤ most := by omega
      (obtain ⟨by0, by1, by2, by3, by4, by5, by6, by7, by8, by9, by10, by11, by12⟩ := box13_ hy6)
      clear hfull HXC hy6 HD HD2 HWX HFAR HF56
      go_wp2_with (at_builtin; refine wpList_app1 rfl _ _ 39 rfl w.heap.size 33 (.agg #[.int .i64 0, .int .i64 0, .int .i64 0, .int .i64 0, .int .i64 0, .int .i64 0, .int .i64 0, .int .i64 0, .int .i64 0, .int .i64 0, .int .i64 0, .slice none 0 0, .slice none 0 0]) 136 Tryz.underlying39 infoRec rfl (by decide) (sRc.newer _) W6 (frAlloc _ _) (.slice A acc.length c) acc rfl HO6.out W6.heap.size [.int .i64 x.kind, .int .i64 x.place, .int .i64 x.n, .int .i64 x.try_, .int .i64 x.h.frm, .int .i64 x.h.seq, .int .i64 x.h.to, .int .i64 x.h.till, .int .i64 x.h.bytes, .int .i64 x.h.block, .int .i64 x.s.id, .slice D n dc, .slice D2 n2 dc2] 33 (0, 0) rfl (heap_new rfl) rfl hone.out x hrc.out hLm hLs w.heap.size w HF6.out (Nat.le_refl _) hbb ?_)
      intro v' w7 HO7 HF7
      go_wp2_with fail
      go_roundw
      case rel => exact ⟨b, acc ++ [x], rfl, HO7, HF7, by have := HSL2.out; omega, by simpa using hal2, hx⟩
      case measure =>
        have := HSL2.out
        simp only [strN, sV_size]
        omega
end Go.Proofs.YtbincgbgeccccaaGreatDoor
namespace Go.Proofs.YtbincgbgeccccaaGreatDoor
open Go.RowKit
attribute [local irreducible] wpList

theorem foldl_bytes : ∀ (l : List UInt8) (s : ByteArray), (l.map fun b => (b.toNat : Int)).foldl (fun r n => r.push (UInt8.ofNat n.toNat)) s = ⟨s.data ++ l.toArray⟩
  | [], s => by simp
  | b :: l, s => by
    rw [List.map_cons, List.foldl_cons, foldl_bytes l]
    simp [ByteArray.push]
/-- Bytes as a string. -/
theorem conv_bytes (W : World) {S : Nat → Prop} {A : Option Addr} {n : Nat} (c : Nat) {l : List UInt8} (h : Sl 1 eByte W S A n l) : (convert 22 9 (.slice A n c)).run Tryz.prog W = .ok (sV l) W := by
  rw [run_convert_bytes_string W _ _ _ A n c Tryz.underlying22 Tryz.underlying5 Tryz.underlying9]
  cases A with
  | none =>
    have h0 : n = 0 := by
      rcases Nat.eq_zero_or_pos n with h0 | h0
      · exact h0
      · obtain ⟨_, e, _⟩ := h.2 h0; cases e
    have hl : l = [] := List.eq_nil_of_length_eq_zero (h.1.trans h0)
    subst hl
    simp [Conv.bytesToString]
    rfl
  | some ad =>
    have hc : ∀ j v, (l.map fun b => Value.int .u8 (b.toNat : Int))[j]? = some v → W.cell? (ad.add j) = some v := by
      intro j v hj
      rw [List.getElem?_map] at hj
      cases hb : l[j]? with
      | none => rw [hb] at hj; cases hj
      | some b =>
        rw [hb] at hj
        have hn : 0 < n := by have := (List.getElem?_eq_some_iff.1 hb).1; have := h.1; omega
        obtain ⟨ad', e, _, hr⟩ := h.2 hn
        injection e with e
        subst e
        have := hr j b hb
        simp only [eByte, Nat.mul_one, Nat.add_zero] at this
        rw [this]
        simpa using hj
    have hl := run_loadCells_list (P := Tryz.prog) W ad (l.map fun b => Value.int .u8 (b.toNat : Int)) hc
    rw [List.length_map, h.1] at hl
    have := run_bytesToString (P := Tryz.prog) W ad n c (l.map fun b => (b.toNat : Int)) (by rw [List.map_map]; exact hl)
    rw [this, foldl_bytes]
    have e : ByteArray.empty.data ++ l.toArray = l.toArray := by simp [ByteArray.empty, ByteArray.emptyWithCapacity]; rfl
    rw [e]
set_option maxRecDepth 100000 in
set_option maxHeartbeats 8000000 in
theorem diskCheck_any (w : World) (v : Vars w) (d : Dk) (A : Option Addr) (n c : Nat) (B : Option Addr) (m e : Nat) (hA : Byt w (LT w.heap.size) A n c d.safe) (hB : Byt w (LT w.heap.size) B m e d.wait) :
    Calls Tryz.prog 10 #[.agg #[.slice A n c, .slice B m e]] w fun r w' => r = .returned (.int .i64 (diskCheck d)) ∧ Fr w w' := by
  obtain ⟨X, hX⟩ : ∃ X, X = diskCheck d := ⟨_, rfl⟩
  rw [← hX]
  have hl := hA.2.1
  have hl2 := hB.2.1
  have E := Lib.hid (diskCheck.eq_1 d)
  rw [hl, hl2, ← hX] at E
  obtain ⟨W1, hW1⟩ : ∃ W1, W1 = w.alloc (.cells #[.slice A n c, .slice B m e] 24) := ⟨_, rfl⟩
  obtain ⟨p, hp⟩ : ∃ p, p = w.heap.size := ⟨_, rfl⟩
  have hp1 : W1.heap[p]? = some (.cells #[.slice A n c, .slice B m e] 24 (0, 0)) := by rw [hW1]; exact heap_new hp
  have HF1 : Hid (Fr w W1) := by rw [hW1]; exact frAlloc _ _
  have hcv := conv_bytes W1 c (hA.2.go sByte HF1.out)
  have HV := Lib.hid v
  have HL := Lib.hid hl
  (obtain ⟨bp0, bp1⟩ := box2_ hp1)
  clear hp1 hA hB hl hl2 hX v
  go_enter Tryz.func10, Tryz.ntmps10
  go_upto_region 1 with fail
  rw [← hW1, ← hp]
  clear hW1 hp
  by_cases h1 : 60000 < n
  · have t1 : decide ((60000 : Int) < (n : Int)) = true := by simp; omega
    have hx : Hid (X = 2) := E.out.trans (if_pos (.inl h1))
    clear h1 hcv
    go_wp2_with fail
    go_ret
    exact ⟨retI hx.out.symm, HF1.out⟩
  have t1 : decide ((60000 : Int) < (n : Int)) = false := by simp; omega
  by_cases h2 : 60000 < n + m
  · have t2 : decide ((60000 : Int) - (n : Int) < (m : Int)) = true := by simp; omega
    have hx : Hid (X = 2) := E.out.trans (if_pos (.inr h2))
    have hw : IntKind.i64.wrap ((60000 : Int) - (n : Int)) = (60000 : Int) - (n : Int) := by rw [IntKind.wrap_i64]; omega
    clear h1 h2 hcv
    go_wp2_with fail
    go_ret
    exact ⟨retI hx.out.symm, HF1.out⟩
  have t2 : decide ((60000 : Int) - (n : Int) < (m : Int)) = false := by simp; omega
  have hw : IntKind.i64.wrap ((60000 : Int) - (n : Int)) = (60000 : Int) - (n : Int) := by rw [IntKind.wrap_i64]; omega
  obtain ⟨Y, hY⟩ : ∃ Y, Y = linesF 200 d.safe := ⟨_, rfl⟩
  have hx : Hid (X = Y.2.2) := E.out.trans (by rw [if_neg (by omega), hY])
  have LN : Hid (Calls Tryz.prog 21 #[sV d.safe, .int .i64 200] W1 (LPost W1 Y)) := by rw [hY]; exact lines_any W1 (HV.out.go HF1.out) d.safe (by rw [HL.out]; omega) 200 (by omega)
  clear hY E h1 h2
  go_wp2_with fail
  (with_reducible refine (LN.out).mono ?_)
  rintro r w2 ⟨u, rfl, _, hf2⟩
  have HF2 : Hid (Fr w w2) := HF1.out.trans hf2
  clear hf2 LN
  go_wp2_with fail
  go_ret
  exact ⟨retI hx.out.symm, HF2.out⟩
end Go.Proofs.YtbincgbgeccccaaGreatDoor
namespace Go.Proofs.YtbincgbgeccccaaGreatDoor
open Go.RowKit

/-- A slice of no element, made anew, is the call's own. -/
theorem Own.empty {α : Type} {size : Nat} {r : ERd α} {w : World} {base : Nat} {e : TypeId} (hb : base ≤ w.heap.size) : Own size r (w.alloc (.cells #[] e)) base e (.slice (some ⟨w.heap.size, 0, none⟩) 0 0) ([] : List α) :=
  ⟨[], World.ownsRow_lit w #[] 0 hb (by unfold maxLen; omega) (by simp), fun i x h => by simp at h⟩


set_option maxHeartbeats 400000 in
theorem cloneBytes_any (w : World) (A : Option Addr) (n c : Nat) (l : List UInt8) (h : Sl 1 eByte w (LT w.heap.size) A n l) (hm : n * 1 ≤ lim) :
    Calls Tryz.prog 19 #[.slice A n c] w fun e w' => ∃ v, e = .returned v ∧ Own 1 eByte w' w.heap.size 5 v l ∧ Fr w w' := by
  have hm2 := hm
  unfold lim at hm2
  cases A with
  | none =>
    have hn : n = 0 := by
      rcases Nat.eq_zero_or_pos n with h0 | h0
      · exact h0
      · obtain ⟨ad, e, _⟩ := h.2 h0; cases e
    have hl : l = [] := List.eq_nil_of_length_eq_zero (by rw [h.1]; exact hn)
    subst hl
    subst hn
    have hnil := fun (W : World) => Lib.run_eql_slice_nil (P := Tryz.prog) W 22 _ Option.none 0 c 0 0 Tryz.underlying22
    clear h
    go_enter Tryz.func19, Tryz.ntmps19
    go_wp2_with fail
    go_ret
    exact ⟨_, rfl, Own.nil, Below.refl _ _⟩
  | some ad =>
    have hnil := fun (W : World) => Lib.run_eql_slice_nil (P := Tryz.prog) W 22 _ (some ad) n c 0 0 Tryz.underlying22
    simp only [Option.isNone_some] at hnil
    obtain ⟨cs, hcl, hcc, hc1, hcr⟩ : ∃ cs : List Value, cs.length = n * 1 ∧ (∀ j u, cs[j]? = some u → w.cell? (ad.add j) = some u ∧ ad.block < w.heap.size) ∧ (∀ u ∈ cs, u.oneCell' = true) ∧ ∀ i x, l[i]? = some x → eByte w (LT w.heap.size) (fun j => cs[i * 1 + j]?) x := by
      rcases Nat.eq_zero_or_pos n with h0 | h0
      · have hl : l = [] := List.eq_nil_of_length_eq_zero (by rw [h.1]; exact h0)
        exact ⟨[], by simp [h0], fun j u hu => by simp at hu, fun u hu => by simp at hu, fun i x hx => by simp [hl] at hx⟩
      · obtain ⟨ad', e, hE⟩ := h.els h0
        injection e with e
        subst e
        obtain ⟨cs, k1, k2, k3, k4⟩ := hE.cells fByte sByte (by decide)
        exact ⟨cs, k1, fun j u hu => ⟨k2 j u hu, hE.2.1⟩, k3, k4⟩
    have hll := h.1
    (have H := Lib.hid h; clear h; have Hcl := Lib.hid hcl; clear hcl; have Hcc := Lib.hid hcc; clear hcc; have Hc1 := Lib.hid hc1; clear hc1; have Hcr := Lib.hid hcr; clear hcr; have Hll := Lib.hid hll; clear hll)
    go_enter Tryz.func19, Tryz.ntmps19
    go_wp2_with (at_builtin; refine wpList_apps _ rfl _ _ 22 rfl w.heap.size 5 _ _ _ Tryz.underlying22 infoByte rfl (by decide) sByte _ ([] : List UInt8) rfl (Own.empty (Nat.le_refl _)) ad n c cs rfl Hcl.out ?c1 Hc1.out l Hll.out ?c3 ?c4 ?c5 ?c6 ?_)
    case c1 => intro j u hu; obtain ⟨k1, k2⟩ := Hcc.out j u hu; exact ((frAlloc w _).cell (by rw [block_of_add]; exact k2)).trans k1
    case c3 =>
      intro i x hx
      refine (sByte).more (S := LT w.heap.size) (fun b hb => ?_) ((sByte).keep (fun p hp => (frAlloc w _).cell hp) (Hcr.out i x hx))
      have hb' : b < w.heap.size := hb
      refine ⟨by simp; omega, ?_⟩
      intro e
      have e2 : some w.heap.size = some b := e
      have : w.heap.size = b := by injection e2
      omega
    case c4 => unfold maxLen; simp; omega
    case c5 => unfold lim; simp; omega
    case c6 => simp
    · intro v' w1 hown hg hge
      have HO : Hid (Own 1 eByte w1 w.heap.size 5 v' l) := hown
      have HF : Hid (Fr w w1) := (frAlloc w _).grown hg (by simp) hge
      clear hown hg hge
      go_wp2_with fail
      go_ret
      exact ⟨v', rfl, HO.out, HF.out⟩
end Go.Proofs.YtbincgbgeccccaaGreatDoor
namespace Go.Proofs.YtbincgbgeccccaaGreatDoor
set_option maxRecDepth 100000
open Go.RowKit

/-- Two that may come first. -/
theorem held_two {P : Program} {ops : Array Oper} {Q : Exit → Act → World → Prop} {md : Region.Mode} {S : World → Prop} {i j : Nat} {oi oj : Oper} {ri rj : List Oper} {fuel : Nat} {listed : Array Bool} {a : Act} {w : World} (hi : ops.toList.drop i = oi :: ri) (hj : ops.toList.drop j = oj :: rj) (hr : Region.ready md ops listed = [i, j])
    (h : ∀ K' : Act → World → Prop, Shut (∀ a w, S w → (S w → wpAnyH P md ops Q S fuel (listed.setIfInBounds i true) a w) → K' a w) → if Region.wanted oi (yielded ops a.tmps) = true then Oper.wp P oi a w K' Q else K' (a.put oi.dst undef) w)
    (k : ∀ K' : Act → World → Prop, Shut (∀ a w, S w → (S w → wpAnyH P md ops Q S fuel (listed.setIfInBounds j true) a w) → K' a w) → if Region.wanted oj (yielded ops a.tmps) = true then Oper.wp P oj a w K' Q else K' (a.put oj.dst undef) w) : wpAnyH P md ops Q S (fuel + 1) listed a w :=
  wpAnyH_ready hr (by simp) (AllReadyH.cons (held_at hi) h (AllReadyH.cons (held_at hj) k AllReadyH.nil))
theorem step_appStr {P : Program} {w : World} {ops : Array Oper} {o : Oper} {a : Act} {K : Act → World → Prop} {Q : Exit → Act → World → Prop} {E : Prop} (hgd : o.guard = none) (s x : Operand) (t u : TypeId)
    (ho : o.op = .call { callee := .builtin .append, args := #[s, x], argTypes := #[t, u] })
    (base e : TypeId) (ht : P.underlying t = some (.slice e)) (hu : P.underlying u = some .string) (hi : (P.info? e).map (fun i => (i.zero, i.size, i.bytes)) = some (some (bV 0), 1, 1))
    (v : Value) (xs : List UInt8) (hs : a.eval s = v) (hown : Own 1 eByte w base e v xs) (str : List UInt8) (hx : a.eval x = sV str)
    (h63 : xs.length + str.length ≤ lim) (hbase : base ≤ w.heap.size) (B : Nat) (A0 : World) (hbel : Below B A0 w) (hB : B ≤ base)
    (h : ∀ v' w', Hid (Own 1 eByte w' base e v' (xs ++ str)) → Hid (Below B A0 w') → Hid (∀ g o, w.heap[g]? = some o → v.ownBlock ≠ some g → w'.heap[g]? = some o) → K (a.put o.dst v') w') :
    if Region.wanted o (yielded ops a.tmps) = true then Oper.wp P o a w K Q else E := by
  have hw : Region.wanted o (yielded ops a.tmps) = true := by simp [Region.wanted, hgd]
  rw [if_pos hw]
  obtain ⟨i, hi1, hi2⟩ := Option.map_eq_some_iff.1 hi
  simp only [Prod.mk.injEq] at hi2
  obtain ⟨hz0, hz1, hz2⟩ := hi2
  obtain ⟨cs, hrow, hr⟩ := hown
  have hsz := sV_size str
  unfold lim at h63
  obtain ⟨v', w', hrun, ho2, hg, _⟩ := Lib.run_append_own_string (P := P) w base t u o.type e i ht hu hi1 hz0 hz1 hz2 v xs.length cs hrow ⟨str.toArray⟩ (by rw [hsz]; unfold maxLen; omega) (by rw [hsz]; omega) hbase
  unfold Oper.wp execOp
  simp only [ho, resolve, invoke, builtin, Sem.run_bind, Sem.run_pure, Result.andThen_ok, List.map_toArray, List.map_cons, List.map_nil, hs, hx, hrun]
  have hlen : cs.length = xs.length := by simpa using hrow.1
  refine h v' w' ⟨cs ++ Lib.strCells ⟨str.toArray⟩, by rw [List.length_append, ← hsz]; exact ho2, fun i y hy => ?_⟩ ((hbel.grown hg (Nat.le_trans hB hbase) fun k hk => Nat.le_trans hB (hrow.lt k hk).1)) (fun g o hgo hne => (hg.block g (Array.getElem?_eq_some_iff.1 hgo).1 (fun e => hne e.symm)).trans hgo)
  show (cs ++ Lib.strCells ⟨str.toArray⟩)[i * 1 + 0]? = _
  rw [Nat.mul_one, Nat.add_zero]
  rw [List.getElem?_append] at hy ⊢
  rw [hlen]
  split at hy
  · rename_i hlt
    rw [if_pos hlt]
    have := hr i y hy
    simpa [eByte] using this
  · rename_i hlt
    rw [if_neg hlt]
    unfold Lib.strCells
    simp [hy]
/-- A slice of two. -/
theorem sl_two {w : World} {S : Nat → Prop} {b : Nat} {t : TypeId} {A : Option Addr} {n c : Nat} {B : Option Addr} {m e : Nat} {x y : List UInt8} (hb : w.heap[b]? = some (.cells #[.slice A n c, .slice B m e] t (0, 0))) (hS : S b) (hx : Byt w S A n c x) (hy : Byt w S B m e y) : Sl 1 eBlock w S (some ⟨b, 0, none⟩) 2 [x, y] :=
  .lit hb hS rfl fun i z hz => by
    match i, hz with
    | 0, hz => obtain rfl : x = z := by simpa using hz
               exact ⟨A, n, c, by simp, hx.1, hx.2⟩
    | 1, hz => obtain rfl : y = z := by simpa using hz
               exact ⟨B, m, e, by simp, hy.1, hy.2⟩
    | i + 2, hz => simp at hz
theorem growDBytes_nil (w : World) (n : Nat) (hm : n * 1 ≤ lim) (h63 : n ≤ lim) :
    Calls Tryz.prog 31 #[.slice none 0 0, .int .i64 n] w fun e w' => ∃ v, e = .returned v ∧ Own 1 eByte w' w.heap.size 5 v ([] : List (UInt8)) ∧ Fr w w' := by
  obtain ⟨i0, hi0, hi1⟩ := Option.map_eq_some_iff.1 infoByte
  simp only [Prod.mk.injEq] at hi1
  obtain ⟨hz0, hz1, hz2⟩ := hi1
  unfold lim at h63 hm
  have h1 : ¬ ((n : Int) < 0) := by omega
  by_cases h0 : n = 0
  · subst h0
    clear hi0 hz0 hz1 hz2
    go_enter Tryz.func31, Tryz.ntmps31
    go_wp2
    go_ret
    exact ⟨_, rfl, Own.nil, Below.refl _ _⟩
  · have h4 : (n : Int) > 0 := by omega
    obtain ⟨G, hG⟩ : ∃ G, G = grownCap w n 0 5 := ⟨_, rfl⟩
    obtain ⟨cur, hcur⟩ : ∃ cur, cur = Builtin.zeroCells ((bV 0) : Value).cells n ++ Builtin.zeroCells ((bV 0) : Value).cells (G - n) := ⟨_, rfl⟩
    have hge := grownCap_ge w n 0 5
    have hle := grownCap_le_maxLen w n 0 5 (by unfold maxLen; omega)
    rw [← hG] at hge hle
    have hcs : cur.size = G * 1 := by
      rw [hcur, Array.size_append, size_zeroCells, size_zeroCells, ← Nat.add_mul]
      show (n + (G - n)) * 1 = G * 1
      congr 1; omega
    have hrz : Hid (∀ ty, (Builtin.append_ #[22, 3] ty #[.slice none 0 0, .int .i64 (n : Int)]).run Tryz.prog w = .ok (.slice (some ⟨w.heap.size, 0, none⟩) n G) (w.drew.alloc (.cells cur 5))) := fun ty => by
      have h := Lib.run_append_grow_zeros (P := Tryz.prog) w 22 3 ty 5 i0 (bV 0) .i64 .i64 Tryz.underlying22 Tryz.underlying3 hi0 hz0 Option.none 0 0 [] (run_firstCells_none w.drew i0.size 0 0 0) n (by omega) (by rw [hz1]; decide) (by omega) (by omega)
        (by rw [hz2]; omega) (by rw [hz2, Nat.zero_add]; exact growslice_fits (by omega) (by omega))
      rw [Nat.zero_add] at h
      rw [h, hcur, hG]
      simp
    have HO : Hid (Own 1 eByte (w.drew.alloc (.cells cur 5)) w.heap.size 5 (.slice (some ⟨w.heap.size, 0, none⟩) 0 G) ([] : List (UInt8))) :=
      ⟨[], ⟨by simp, .inr ⟨w.heap.size, G, cur, rfl, Nat.le_refl _, heap_alloc_new w.drew _, Nat.zero_le _, hle, hcs, by simp⟩⟩, fun i x h => by simp at h⟩
    clear hG hcur hle hcs hi0 hz0 hz1 hz2
    go_enter Tryz.func31, Tryz.ntmps31
    go_wp2_with (at_builtin; refine Lib.wpList_append_run _ rfl _ _ _ _ rfl _ _ rfl rfl _ _ (hrz.out _) ?_)
    go_ret
    exact ⟨_, rfl, HO.out, (Below.refl _ _).drew.alloc (Nat.le_refl _) _⟩

set_option maxHeartbeats 1000000 in
theorem concatDBytes_any (w : World) (A : Option Addr) (n c : Nat) (ls : List (List (UInt8))) (h : Sl 1 (eSl 1 1 eByte) w (LT w.heap.size) A n ls) (hm : n ≤ lim) (hs : lens ls * 1 ≤ lim) (hs1 : lens ls ≤ lim) :
    Calls Tryz.prog 20 #[.slice A n c] w fun e w' => ∃ v, e = .returned v ∧ Own 1 eByte w' w.heap.size 5 v ls.flatten ∧ Fr w w' := by
  obtain ⟨i0, hi0, _⟩ := Option.map_eq_some_iff.1 infoByte
  have hm1 := hm
  have hs2 := hs1
  unfold lim at hm1 hs2
  (have H := Lib.hid h; clear h; have Hi0 := Lib.hid hi0; clear hi0)
  go_enter Tryz.func20, Tryz.ntmps20
  go_wp2_with fail
  go_loop [3, 11] (fun s i => ∃ k : Nat, k ≤ n ∧ i = .int .i64 k ∧ s = .int .i64 (lens (ls.take k) : Nat)) (fun _ i => n - (intOf i).toNat)
  case atStart => exact ⟨0, Nat.zero_le _, rfl, by simp [lens]⟩
  case round =>
    obtain ⟨k, hk, rfl, rfl⟩ := hrel
    by_cases hlt : k < n
    · obtain ⟨ad, rfl, hE⟩ := H.out.els (by omega)
      obtain ⟨A', n', c', l, hl, hcl, hm', hc1, hc2, hsl⟩ := hE.slC hlt
      have h1 := lens_take_succ hl
      have h2 := lens_take_le ls (k + 1)
      rw [hsl.1] at h1
      obtain ⟨a, ha⟩ : ∃ a, a = lens (ls.take k) := ⟨_, rfl⟩
      obtain ⟨b, hb⟩ : ∃ b, b = lens (ls.take (k + 1)) := ⟨_, rfl⟩
      rw [← ha] at h1 ⊢
      rw [← hb] at h1 h2
      have hab : a + n' ≤ 140737488355328 := by omega
      have hneg : ¬ ((a : Int) + (n' : Int) < 0) := by omega
      have HB : Hid (b = a + n') := h1
      have HB2 := Lib.hid hb
      clear hl hsl h1 ha hb
      go_wp2_with fail
      go_round
      case rel => exact ⟨k + 1, by omega, by go_num, by rw [← HB2.out, HB.out]; go_num⟩
      case measure => simp [intOf]; omega
    · obtain rfl : k = n := by omega
      have ht : Hid (ls.take k = ls) := List.take_of_length_le (by rw [H.out.1]; exact Nat.le_refl _)
      rw [ht.out]
      obtain ⟨T, hT⟩ : ∃ T, T = lens ls := ⟨_, rfl⟩
      rw [← hT] at hs hs1 ⊢
      (have HT := Lib.hid hT; clear hT)
      go_wp2_with fail
      (with_reducible refine (growDBytes_nil _ T hs hs1).mono ?_)
      rintro e w1 ⟨v1, rfl, ho1, hf1⟩
      (have Ho1 := Lib.hid ho1; clear ho1; have Hf1 := Lib.hid hf1; clear hf1)
      go_wp2_with fail
      go_loopw [6, 27] (fun v i wr => ∃ j : Nat, j ≤ k ∧ i = .int .i64 j ∧ Hid (Own 1 eByte wr w.heap.size 5 v (ls.take j).flatten) ∧ Hid (Below w.heap.size w wr)) (fun _ i _ => k - (intOf i).toNat)
      case atStart => exact ⟨0, Nat.zero_le _, rfl, Ho1, Hf1⟩
      case round =>
        obtain ⟨j, hj, rfl, HO, HF⟩ := hrel
        by_cases hlt2 : j < k
        · obtain ⟨ad, rfl, hE⟩ := H.out.els (by omega)
          obtain ⟨A', n', c', l, hl, hcl, hm', hc1, hc2, hsl⟩ := hE.slC hlt2
          have hcw : wr.cell? (ad.add j) = some (.slice A' n' c') := (HF.out.cell (p := ad.add j) (by rw [block_of_add]; exact hE.2.1)).trans hcl
          have Hlen : Hid ((ls.take j).flatten.length + n' ≤ T) := by
            have h1 := lens_take_succ hl
            have h2 := lens_take_le ls (j + 1)
            rw [hsl.1] at h1
            have := HT.out
            rw [Hid, length_flatten_lens]; omega
          have HT2 : Hid ((ls.take (j + 1)).flatten = (ls.take j).flatten ++ l) := by rw [Hid, take_snoc' hl, List.flatten_append]; simp
          have HTb : Hid (T * 1 ≤ lim ∧ T ≤ lim) := ⟨hs, hs1⟩
          cases A' with
          | none =>
            have hn0 : n' = 0 := by
              rcases Nat.eq_zero_or_pos n' with h0 | h0
              · exact h0
              · obtain ⟨ad', e, _⟩ := hsl.2 h0; cases e
            subst hn0
            have hl0 : l = [] := List.eq_nil_of_length_eq_zero hsl.1
            subst hl0
            have HO3 : Hid (Own 1 eByte wr w.heap.size 5 u6 (ls.take (j + 1)).flatten) := by rw [HT2.out, List.append_nil]; exact HO.out
            clear hl hcl hsl
            go_wp2_with (at_builtin; refine wpList_apps_nil _ rfl _ _ 22 rfl w.heap.size 5 i0 Tryz.underlying22 Hi0.out _ _ c' rfl HO.out rfl ?_)
            go_roundw
            case rel => exact ⟨j + 1, by omega, by go_num, HO3, HF⟩
            case measure => simp [intOf]; omega
          | some adb =>
            obtain ⟨news, hnl, hnc, hn1, hnr⟩ : ∃ news : List Value, news.length = n' * 1 ∧ (∀ j u, news[j]? = some u → w.cell? (adb.add j) = some u ∧ adb.block < w.heap.size) ∧ (∀ u ∈ news, u.oneCell' = true) ∧ ∀ i x, l[i]? = some x → eByte w (LT w.heap.size) (fun j => news[i * 1 + j]?) x := by
              rcases Nat.eq_zero_or_pos n' with h0 | h0
              · have hl0 : l = [] := List.eq_nil_of_length_eq_zero (by rw [hsl.1]; exact h0)
                exact ⟨[], by simp [h0], fun j u hu => by simp at hu, fun u hu => by simp at hu, fun i x hx => by simp [hl0] at hx⟩
              · obtain ⟨ad', e, hE'⟩ := hsl.els h0
                injection e with e
                subst e
                obtain ⟨cs, k1, k2, k3, k4⟩ := hE'.cells fByte sByte (by decide)
                exact ⟨cs, k1, fun j u hu => ⟨k2 j u hu, hE'.2.1⟩, k3, k4⟩
            have hll := hsl.1
            have hfar : Hid (∀ b, b < w.heap.size → u6.ownBlock ≠ some b) := fun b hb => HO.out.far hb
            clear hl hcl hsl
            (have Hnl := Lib.hid hnl; clear hnl; have Hnc := Lib.hid hnc; clear hnc; have Hn1 := Lib.hid hn1; clear hn1; have Hnr := Lib.hid hnr; clear hnr; have Hll := Lib.hid hll; clear hll)
            go_wp2_with (at_builtin; refine wpList_apps _ rfl _ _ 22 rfl w.heap.size 5 _ _ _ Tryz.underlying22 infoByte rfl (by decide) sByte _ (ls.take j).flatten rfl HO.out adb n' c' news rfl Hnl.out ?c1 Hn1.out l Hll.out ?c3 ?c4 ?c5 ?c6 ?_)
            case c1 => intro i u hu; obtain ⟨k1, k2⟩ := Hnc.out i u hu; exact (HF.out.cell (by rw [block_of_add]; exact k2)).trans k1
            case c3 =>
              intro i x hx
              exact (sByte).more (S := LT w.heap.size) (fun b hb => ⟨Nat.lt_of_lt_of_le hb HF.out.size, hfar.out b hb⟩) ((sByte).keep (fun p hp => HF.out.cell hp) (Hnr.out i x hx))
            case c4 => have := Hlen.out; have q := HTb.out.2; unfold maxLen; unfold lim at q; omega
            case c5 => exact Nat.le_trans (Nat.mul_le_mul_right _ Hlen.out) HTb.out.1
            case c6 => exact HF.out.size
            · intro v' w3 ho3 hg3 hge3
              have HO3 : Hid (Own 1 eByte w3 w.heap.size 5 v' (ls.take (j + 1)).flatten) := by rw [HT2.out]; exact ho3
              have HF3 : Hid (Below w.heap.size w w3) := HF.out.grown hg3 HF.out.size hge3
              clear ho3 hg3 hge3
              go_wp2
              go_roundw
              case rel => exact ⟨j + 1, by omega, by go_num, HO3, HF3⟩
              case measure => simp [intOf]; omega
        · obtain rfl : j = k := by omega
          rw [ht.out] at HO
          go_wp2_with fail
          go_ret
          exact ⟨_, rfl, HO.out, HF.out⟩
/-- What a function of a disk leaves: bytes of its own. -/
def KPost (w : World) (X : Dk × Int) (r : Ending) (w' : World) : Prop := ∃ A n c B m e, r = .returned (.tuple #[.agg #[.slice A n c, .slice B m e], .int .i64 X.2]) ∧ Byt w' (NW w.heap.size w'.heap.size) A n c X.1.safe ∧ Byt w' (NW w.heap.size w'.heap.size) B m e X.1.wait ∧ Fr w w'
theorem kpost_err {w w' : World} {X : Dk × Int} {c : Int} (h : X = (Dk.zero, c)) (hf : Fr w w') : KPost w X (.returned (.tuple #[.agg #[.slice none 0 0, .slice none 0 0], .int .i64 c])) w' := by
  subst h
  exact ⟨none, 0, 0, none, 0, 0, rfl, byt_nil, byt_nil, hf⟩
/-- Bytes of one's own, as bytes in new blocks. -/
theorem Own.byt {w : World} {base : Nat} {e : TypeId} {v : Value} {l : List UInt8} (h : Own 1 eByte w base e v l) (hl : l.length ≤ lim) : ∃ A c, v = .slice A l.length c ∧ Byt w (NW base w.heap.size) A l.length c l := by
  obtain ⟨A, c, e, hc, hs⟩ := h.nwByt
  exact ⟨A, c, e, ⟨by omega, hc⟩, hs⟩
end Go.Proofs.YtbincgbgeccccaaGreatDoor
namespace Go.Proofs.YtbincgbgeccccaaGreatDoor
open Go.RowKit
attribute [local irreducible] wpList

theorem str_app (a b : List UInt8) : (⟨a.toArray⟩ ++ ⟨b.toArray⟩ : ByteArray) = ⟨(a ++ b).toArray⟩ := by
  apply ByteArray.ext
  rw [ByteArray.data_append]
  simp
theorem str_snoc (a : List UInt8) (x : UInt8) : (⟨a.toArray⟩ ++ ⟨#[x]⟩ : ByteArray) = ⟨(a ++ [x]).toArray⟩ := str_app a [x]
theorem six_enc : ∀ i : Fin 16, Utf8.encode (((⟨#[48, 49, 50, 51, 52, 53, 54, 55, 56, 57, 97, 98, 99, 100, 101, 102]⟩ : ByteArray)[i.val]'i.isLt).toNat : Int) = ⟨#[hexD i.val]⟩ := by decide +kernel
theorem six_enc' (i : Nat) (h : i < (⟨#[48, 49, 50, 51, 52, 53, 54, 55, 56, 57, 97, 98, 99, 100, 101, 102]⟩ : ByteArray).size) : Utf8.encode (((⟨#[48, 49, 50, 51, 52, 53, 54, 55, 56, 57, 97, 98, 99, 100, 101, 102]⟩ : ByteArray)[i]).toNat : Int) = ⟨#[hexD i]⟩ := six_enc ⟨i, h⟩
set_option maxRecDepth 100000 in
set_option maxHeartbeats 4000000 in
theorem refPut_any (w : World) (A : Option Addr) (n c : Nat) (d : List UInt8) (sb : Nat) (l : List UInt8) (hA : Sl 1 eByte w (LT sb) A n d) (hn : n ≤ 1000000) (hll : l.length ≤ 40000000) (hs : w.heap[sb]? = some (.cells #[sV l] 9 (0, 0))) :
    Calls Tryz.prog 38 #[.slice A n c, .pointer (some ⟨sb, 0, none⟩)] w fun e w' => e = .returned (.tuple #[]) ∧ w'.heap[sb]? = some (.cells #[sV (l ++ 45 :: hexE d)] 9 (0, 0)) ∧ Chg (fun b => b = sb) w w' := by
  have hl : d.length = n := hA.1
  have HA := Lib.hid hA
  have hsb : sb < w.heap.size := (Array.getElem?_eq_some_iff.1 hs).1
  have hcs := box1_ hs
  have hfz := blk_free (i := 0) hs
  have hs1 := stor1_ (v0 := sV (l ++ 45 :: hexE (d.take 0))) hs
  have HS1 := Lib.hid hs1
  have HLL := Lib.hid hll
  have i0 : ¬ 9223372036854775807 < l.length + 1 := by omega
  clear hA hs hs1 hll
  go_enter Tryz.func38, Tryz.ntmps38
  go_upto_region 1 with fail
  rw [str_snoc]
  obtain ⟨W1, hW1⟩ : ∃ W1, W1 = w.setCell ⟨sb, 0, none⟩ (sV (l ++ 45 :: hexE (d.take 0))) := ⟨_, rfl⟩
  have hW1' : w.setCell ⟨sb, 0, none⟩ (.string ⟨(l ++ [45]).toArray⟩) = W1 := hW1.symm
  rw [hW1']
  rw [← hW1] at HS1
  have HC1 : Hid (Chg (fun b => b = sb) w W1) := by rw [hW1]; exact Chg.set (S := fun b => b = sb) (p := ⟨sb, 0, none⟩) (Chg.refl _ _) rfl _
  clear hW1 hW1' hcs hfz i0
  go_wp2_with fail
  go_loopw [9] (fun s9 wr => ∃ k : Nat, k ≤ n ∧ s9 = .int .i64 k ∧ Hid (wr.heap[sb]? = some (.cells #[sV (l ++ 45 :: hexE (d.take k))] 9 (0, 0))) ∧ Hid (Chg (fun b => b = sb) w wr)) (fun i _ => n - (intOf i).toNat)
  case atStart => exact ⟨0, Nat.zero_le _, rfl, HS1, HC1⟩
  case round =>
    obtain ⟨k, hk, rfl, HS, HC⟩ := hrel
    clear HS1 HC1
    by_cases hlt : k < n
    · obtain ⟨ad, rfl, hE⟩ := (HA.out.chg sByte HC.out fun b hb => ⟨Nat.lt_trans hb hsb, fun e => by have e : b = sb := e; have hb : b < sb := hb; omega⟩).els (by omega)
      obtain ⟨x, hx, hcx⟩ := hE.byte hlt
      clear hE
      obtain ⟨hi, hhi⟩ : ∃ hi, hi = x.toNat / 16 := ⟨_, rfl⟩
      obtain ⟨lo, hlo⟩ : ∃ lo, lo = x.toNat % 16 := ⟨_, rfl⟩
      have f1 : hi < 16 := by have := x.toNat_lt; omega
      have f2 : lo < 16 := by omega
      have f3 : (hi : Int) < 16 := by omega
      have f4 : (lo : Int) < 16 := by omega
      have f5 : 0 ≤ (hi : Int) := by omega
      have f6 : 0 ≤ (lo : Int) := by omega
      have w1 : IntKind.u8.wrap ((x.toNat : Int) / 16) = (hi : Int) := by rw [IntKind.wrap_u8]; omega
      have w2 : IntKind.u8.wrap ((x.toNat : Int) % 16) = (lo : Int) := by rw [IntKind.wrap_u8]; omega
      have w3 : (x.toNat : Int).tmod 16 = (lo : Int) := by rw [Int.tmod_eq_emod_of_nonneg (by omega)]; omega
      have q1 := fun h => six_enc' hi h
      have q2 := fun h => six_enc' lo h
      obtain ⟨LK, hLK⟩ : ∃ LK, LK = l ++ 45 :: hexE (d.take k) := ⟨_, rfl⟩
      have hlk : LK.length ≤ 42000001 := by have := HLL.out; rw [hLK, List.length_append, List.length_cons, hexE_length, List.length_take]; omega
      have i0 : ¬ 9223372036854775807 < LK.length + 2 := by omega
      have hnx : LK ++ [hexD hi, hexD lo] = l ++ 45 :: hexE (d.take (k + 1)) := by
        rw [hLK, List.take_add_one, hx, Option.toList_some, hexE_snoc, List.append_assoc, List.cons_append, hhi, hlo]
      rw [← hLK] at HS
      have hs := HS.out
      have hcs := box1_ hs
      have hfz := blk_free (i := 0) hs
      have hs1 := stor1_ (v0 := sV (LK ++ [hexD hi, hexD lo])) hs
      rw [hnx] at hs1
      have HS1 := Lib.hid hs1
      have HC1 : Hid (Chg (fun b => b = sb) w (wr.setCell ⟨sb, 0, none⟩ (sV (l ++ 45 :: hexE (d.take (k + 1)))))) := Chg.set (p := ⟨sb, 0, none⟩) HC.out rfl _
      have HNX := Lib.hid hnx
      clear hs hs1 hnx hlk hLK hhi hlo
      go_upto_region 4 with fail
      refine held_begin (n := 12) (bs := #[false, false, false, false, false, false, false, false, false, false, false, false]) rfl rfl (by kernel_rfl) (S := fun _ => True) trivial (fun hHeld => ?_)
      ((first | refine held_sk (i := 1) ?_ | refine held_tk (i := 1) ?_); (first | refine held_sk (i := 2) ?_ | refine held_tk (i := 2) ?_); (first | refine held_sk (i := 3) ?_ | refine held_tk (i := 3) ?_); (first | refine held_sk (i := 4) ?_ | refine held_tk (i := 4) ?_); (first | refine held_sk (i := 5) ?_ | refine held_tk (i := 5) ?_); (first | refine held_sk (i := 6) ?_ | refine held_tk (i := 6) ?_); (first | refine held_sk (i := 7) ?_ | refine held_tk (i := 7) ?_); (first | refine held_sk (i := 8) ?_ | refine held_tk (i := 8) ?_); (first | refine held_sk (i := 9) ?_ | refine held_tk (i := 9) ?_))
      have bd0 : wr.drew.cell? ⟨sb, 0, none⟩ = some (sV LK) := hcs
      have bf0 : wr.drew.frozen? ⟨sb, 0, none⟩ = false := hfz
      refine held_one (i := 0) rfl (by kernel_rfl) (fun K hK => ?_)
      go_simp
      (refine held_back hK (a' := ?hA1) (l' := ?hL1) ?ha1 ?hl1 (trivial) (fun hHeld => ?hh1); (case ha1 => first | with_reducible rfl | (simp only [Act.put, hq1, hq2, hq3, Option.isNone, Bool.not_true, Bool.not_false]; (try with_reducible rfl))); (case hl1 => (simp only [Act.put, hq1, hq2, hq3, Option.isNone, Bool.not_true, Bool.not_false]; (try with_reducible rfl))); clear hK K)
      ((first | refine held_sk (i := 10) ?_ | refine held_tk (i := 10) ?_))
      refine held_one (i := 11) rfl (by kernel_rfl) (fun K hK => ?_)
      go_simp
      (refine held_back hK (a' := ?hA2) (l' := ?hL2) ?ha2 ?hl2 (trivial) (fun hHeld => ?hh2); (case ha2 => first | with_reducible rfl | (simp only [Act.put, hq1, hq2, hq3, Option.isNone, Bool.not_true, Bool.not_false]; (try with_reducible rfl))); (case hl2 => (simp only [Act.put, hq1, hq2, hq3, Option.isNone, Bool.not_true, Bool.not_false]; (try with_reducible rfl))); clear hK K)
      refine wpAnyH_done (by kernel_rfl) ?_ _
      clear hHeld
      have hES : (⟨LK.toArray⟩ ++ (⟨#[hexD hi]⟩ ++ ⟨#[hexD lo]⟩) : ByteArray) = ⟨(l ++ 45 :: hexE (d.take (k + 1))).toArray⟩ := by
        rw [← HNX.out, show (⟨#[hexD hi]⟩ ++ ⟨#[hexD lo]⟩ : ByteArray) = ⟨[hexD hi, hexD lo].toArray⟩ from str_app [hexD hi] [hexD lo], str_app]
      rw [hES]
      go_wp2_with fail
      go_roundw
      case rel => exact ⟨k + 1, by omega, by go_num, HS1, HC1.out.drew⟩
      case measure => simp [intOf]; omega
    · have hk' : k = n := by omega
      have HS' : Hid (wr.heap[sb]? = some (.cells #[sV (l ++ 45 :: hexE d)] 9 (0, 0))) := by
        have := HS.out
        rw [hk', List.take_of_length_le (by omega)] at this
        exact this
      clear hk' HS
      go_wp2_with fail
      go_end0
      exact ⟨rfl, HS'.out, HC.out⟩
/-- Words behind each of which a blank stands. -/
def catW : List (List UInt8) → List UInt8
  | [] => []
  | x :: l => x ++ 32 :: catW l
theorem catW_snoc : ∀ (l : List (List UInt8)) (x : List UInt8), catW (l ++ [x]) = catW l ++ (x ++ [32])
  | [], x => by simp [catW]
  | y :: l, x => by rw [List.cons_append, catW, catW_snoc l x, catW, List.append_assoc, List.cons_append]
theorem catW_join : ∀ (l : List (List UInt8)) (a b : List UInt8), Lib.join (l ++ [a, b]) [32] = catW l ++ (a ++ 32 :: b)
  | [], a, b => by rw [List.nil_append, join_cons2, Lib.join_one]; simp [catW]
  | x :: l, a, b => by
    have ih := catW_join l a b
    rw [List.cons_append]
    cases h : l ++ [a, b] with
    | nil => simp at h
    | cons y ys =>
      rw [join_cons2, ← h, ih, catW]; simp
theorem catW_len (m : Nat) : ∀ l : List (List UInt8), (∀ x ∈ l, x.length ≤ m) → (catW l).length ≤ l.length * (m + 1)
  | [], _ => by simp [catW]
  | x :: l, h => by
    have ih := catW_len m l fun y hy => h y (List.mem_cons_of_mem _ hy)
    have hx := h x List.mem_cons_self
    rw [catW, List.length_append, List.length_cons, List.length_cons, Nat.succ_mul]
    omega
theorem recText_cat (r : Rc) : recText r = catW ((recInts r).map Lib.itoa) ++ ((45 :: hexE r.s.data) ++ 32 :: 45 :: hexE r.cargo) := by
  unfold recText recWords; rw [catW_join]
set_option maxRecDepth 100000 in
set_option maxHeartbeats 8000000 in
theorem refText_any (w : World) (v : Vars w) (r : Rc) (A : Option Addr) (na cc : Nat) (B : Option Addr) (nb cb : Nat) (hw : r.wf) (hA : Byt w (LT w.heap.size) A na cc r.s.data) (hB : Byt w (LT w.heap.size) B nb cb r.cargo) :
    Calls Tryz.prog 24 #[.agg #[.int .i64 r.kind, .int .i64 r.place, .int .i64 r.n, .int .i64 r.try_, .int .i64 r.h.frm, .int .i64 r.h.seq, .int .i64 r.h.to, .int .i64 r.h.till, .int .i64 r.h.bytes, .int .i64 r.h.block, .int .i64 r.s.id, .slice A na cc, .slice B nb cb]] w fun e w' => e = .returned (.tuple #[sV (printF r).1, .int .i64 (printF r).2]) ∧ Fr w w' := by
  obtain ⟨b, hb⟩ : ∃ b, b = w.heap.size := ⟨_, rfl⟩
  obtain ⟨W1, hW1⟩ : ∃ W1, W1 = w.alloc (.cells #[.int .i64 r.kind, .int .i64 r.place, .int .i64 r.n, .int .i64 r.try_, .int .i64 r.h.frm, .int .i64 r.h.seq, .int .i64 r.h.to, .int .i64 r.h.till, .int .i64 r.h.bytes, .int .i64 r.h.block, .int .i64 r.s.id, .slice A na cc, .slice B nb cb] 33) := ⟨_, rfl⟩
  have HR1 : Hid (W1.heap[b]? = some (.cells #[.int .i64 r.kind, .int .i64 r.place, .int .i64 r.n, .int .i64 r.try_, .int .i64 r.h.frm, .int .i64 r.h.seq, .int .i64 r.h.to, .int .i64 r.h.till, .int .i64 r.h.bytes, .int .i64 r.h.block, .int .i64 r.s.id, .slice A na cc, .slice B nb cb] 33 (0, 0))) := by rw [hW1]; exact heap_new hb
  have HF1 : Hid (Fr w W1) := by rw [hW1]; exact frAlloc _ _
  have hl1 := hA.2.1
  have hl2 := hB.2.1
  obtain ⟨ck, hck⟩ : ∃ ck, ck = recCheck r := ⟨_, rfl⟩
  have CK : Hid (Calls Tryz.prog 37 #[.agg #[.int .i64 r.kind, .int .i64 r.place, .int .i64 r.n, .int .i64 r.try_, .int .i64 r.h.frm, .int .i64 r.h.seq, .int .i64 r.h.to, .int .i64 r.h.till, .int .i64 r.h.bytes, .int .i64 r.h.block, .int .i64 r.s.id, .slice A na cc, .slice B nb cb]] W1 fun e w' => e = .returned (.int .i64 ck) ∧ Fr W1 w') := by rw [hck]; exact refCheck_any W1 r A na cc B nb cb hw hl1 hl2
  have HCK := Lib.hid hck
  have HW := Lib.hid hw
  have HA := Lib.hid hA
  have HB := Lib.hid hB
  have HV := Lib.hid v
  have hrx := HR1.out
  (obtain ⟨bx0, bx1, bx2, bx3, bx4, bx5, bx6, bx7, bx8, bx9, bx10, bx11, bx12⟩ := box13_ hrx)
  have HBW := Lib.hid hb
  clear hrx hck hw hA hB v
  go_enter Tryz.func24, Tryz.ntmps24
  go_upto_region 1 with fail
  rw [← hW1, ← hb]
  clear hW1 hb
  go_wp2_with fail
  (with_reducible refine (CK.out).mono ?_)
  rintro e w2 ⟨rfl, hf2⟩
  have HR2 := Lib.hid (blk_go HR1.out hf2)
  have HF2 : Hid (Fr w w2) := HF1.out.trans hf2
  clear hf2 CK bx0 bx1 bx2 bx3 bx4 bx5 bx6 bx7 bx8 bx9 bx10 bx11 bx12 HR1 HF1
  by_cases h1 : ck = 0
  case neg =>
    have t1 : (ck != 0) = true := by simp [h1]
    have hp : Hid (printF r = ([], ck)) := by unfold printF; rw [← HCK.out, if_pos h1]; exact rfl
    clear h1
    go_wp2_with fail
    go_ret2
    rw [hp.out]
    exact ⟨rfl, HF2.out⟩
  case pos =>
  have t1 : (ck != 0) = false := by simp [h1]
  have hrl := recCheck_len (HCK.out.symm.trans h1)
  have hib := recInts_bd (HCK.out.symm.trans h1)
  have hp : Hid (printF r = (recText r, 0)) := by unfold printF; rw [← HCK.out, if_neg (by simp [h1])]; exact rfl
  have HIB := Lib.hid hib
  obtain ⟨hr1, hr2⟩ := hrl
  clear h1 hib
  go_upto_region 5 with fail
  obtain ⟨W3, hW3⟩ : ∃ W3, W3 = w2.alloc (.cells #[sV []] 9) := ⟨_, rfl⟩
  obtain ⟨sb, hsb⟩ : ∃ sb, sb = w2.heap.size := ⟨_, rfl⟩
  have hs3 : W3.heap[sb]? = some (.cells #[sV []] 9 (0, 0)) := by rw [hW3]; exact heap_new hsb
  have hf3 : Fr w2 W3 := by rw [hW3]; exact frAlloc _ _
  have hcl : w2.alloc (.cells #[.string ⟨#[]⟩] 9) = W3 := hW3.symm
  rw [hcl, ← hsb]
  have HF3 : Hid (Fr w W3) := HF2.out.trans hf3
  have hrx := blk_go HR2.out hf3
  have HSB : Hid (sb = w2.heap.size) := hsb
  have hsw : w.heap.size < sb := by rw [hsb]; have := HF2.out.size; have := (Array.getElem?_eq_some_iff.1 HR2.out).1; have := HBW.out; omega
  have HS3 := Lib.hid hs3
  have HR3 := Lib.hid hrx
  clear hW3 hsb hf3 hcl HF2 HR2 hs3
  (obtain ⟨bx0, bx1, bx2, bx3, bx4, bx5, bx6, bx7, bx8, bx9, bx10, bx11, bx12⟩ := box13_ hrx)
  clear hrx
  go_upto_region 6 with fail
  obtain ⟨W4, hW4⟩ : ∃ W4, W4 = W3.alloc (.cells (ca (Value.int .i64) (recInts r)) 3) := ⟨_, rfl⟩
  obtain ⟨nb', hnb⟩ : ∃ nb', nb' = W3.heap.size := ⟨_, rfl⟩
  have hw4 : W3.alloc (.cells #[.int .i64 r.kind, .int .i64 r.place, .int .i64 r.n, .int .i64 r.try_, .int .i64 r.h.frm, .int .i64 r.h.seq, .int .i64 r.h.to, .int .i64 r.h.till, .int .i64 r.h.bytes, .int .i64 r.h.block, .int .i64 r.s.id] 3) = W4 := hW4.symm
  rw [hw4, ← hnb]
  have hn4 : W4.heap[nb']? = some (.cells (ca (Value.int .i64) (recInts r)) 3 (0, 0)) := by rw [hW4]; exact heap_new hnb
  have hf4 : Fr W3 W4 := by rw [hW4]; exact frAlloc _ _
  have HN4 := Lib.hid hn4
  have HS4 := Lib.hid (blk_go HS3.out hf4)
  have HR4 := Lib.hid (blk_go HR3.out hf4)
  have HF4 : Hid (Fr w W4) := HF3.out.trans hf4
  have hsn : sb ≠ nb' := by have := (Array.getElem?_eq_some_iff.1 HS3.out).1; omega
  have HSN := Lib.hid hsn
  clear hW4 hnb hw4 hn4 hf4 HS3 HR3 HF3 bx0 bx1 bx2 bx3 bx4 bx5 bx6 bx7 bx8 bx9 bx10 bx11 bx12 hsn
  obtain ⟨WL, hWL⟩ : ∃ WL, WL = (recInts r).map Lib.itoa := ⟨_, rfl⟩
  have hwl : WL.length = 11 := by rw [hWL, List.length_map]; rfl
  have hwm : ∀ x ∈ WL, x.length ≤ 1000001 := fun x hx => by
    rw [hWL] at hx
    obtain ⟨m, hm, rfl⟩ := List.mem_map.1 hx
    exact itoa_len (HIB.out m hm)
  have HWL := Lib.hid hWL
  have HWM := Lib.hid hwm
  clear hWL hwm
  go_loopw [47] (fun s47 wr => ∃ k : Nat, k ≤ 11 ∧ s47 = .int .i64 k ∧ Hid (wr.heap[sb]? = some (.cells #[sV (catW (WL.take k))] 9 (0, 0))) ∧ Hid (Chg (fun b => b = sb) W4 wr)) (fun i _ => 11 - (intOf i).toNat)
  case atStart => exact ⟨0, Nat.zero_le _, rfl, HS4, Chg.refl _ _⟩
  case round =>
    obtain ⟨k, hk, rfl, HS, HC⟩ := hrel
    by_cases hlt : k < 11
    · obtain ⟨nk, hnk⟩ : ∃ nk, (recInts r)[k]? = some nk := ⟨_, List.getElem?_eq_getElem (by have : (recInts r).length = 11 := rfl; omega)⟩
      have hck : wr.cell? ⟨nb', k, none⟩ = some (.int .i64 nk) := ca_cell (HC.out.blk HN4.out fun e => HSN.out e.symm) hnk
      have HFr : Hid (Fr w wr) := HC.out.fr HF4.out fun x e => by have e : x = sb := e; omega
      have hwn := recInts_wf HW.out nk (List.mem_of_getElem? hnk)
      obtain ⟨TK, hTK⟩ : ∃ TK, TK = Lib.itoa nk := ⟨_, rfl⟩
      obtain ⟨LK, hLK⟩ : ∃ LK, LK = catW (WL.take k) := ⟨_, rfl⟩
      have htk : WL[k]? = some TK := by rw [HWL.out, List.getElem?_map, hnk, hTK]; rfl
      have htl := HWM.out TK (List.mem_of_getElem? htk)
      have hlk : LK.length ≤ 11000022 := by
        have := catW_len 1000001 (WL.take k) fun x hx => HWM.out x (List.mem_of_mem_take hx)
        have h2 : (WL.take k).length ≤ 11 := by rw [List.length_take]; omega
        have h3 := Nat.mul_le_mul_right 1000002 h2
        rw [hLK]; omega
      have hnx : LK ++ (TK ++ [32]) = catW (WL.take (k + 1)) := by rw [List.take_add_one, htk, Option.toList_some, catW_snoc, hLK]
      have i0 : ¬ 9223372036854775807 < LK.length + (TK.length + 1) := by omega
      have i1 : ¬ 9223372036854775807 < TK.length + 1 := by omega
      have IT : Hid (∀ W, Fr w W → Calls Tryz.prog 28 #[.int .i64 nk] W fun e w' => e = .returned (sV TK) ∧ Fr W w') := fun W hf => by rw [hTK]; exact itoa_any W (HV.out.go hf) nk hwn
      rw [← hLK] at HS
      have HNX := Lib.hid hnx
      have i2 : (k : Int) < 11 := by omega
      clear hnk hwn hTK hLK htk htl hlk hnx
      go_upto_region 8 with fail
      have HCS := Lib.hid (box1_ HS.out)
      have HFZ := Lib.hid (blk_free (i := 0) HS.out)
      have hcs := HCS.out
      have bd0 : wr.drew.cell? ⟨sb, 0, none⟩ = some (sV LK) := hcs
      have FIN : Hid (∀ w6, Fr wr w6 → w6.cell? ⟨sb, 0, none⟩ = some (sV LK) ∧ w6.frozen? ⟨sb, 0, none⟩ = false ∧ (w6.setCell ⟨sb, 0, none⟩ (.string ⟨(catW (WL.take (k + 1))).toArray⟩)).heap[sb]? = some (.cells #[sV (catW (WL.take (k + 1)))] 9 (0, 0)) ∧ Chg (fun b => b = sb) W4 (w6.setCell ⟨sb, 0, none⟩ (.string ⟨(catW (WL.take (k + 1))).toArray⟩))) := fun w6 hf => by
        have h6 := blk_go HS.out hf
        exact ⟨box1_ h6, blk_free h6, stor1_ h6, Chg.set (p := ⟨sb, 0, none⟩) (HC.out.trans hf.chg) rfl _⟩
      have hEQ : (⟨LK.toArray⟩ ++ (⟨TK.toArray⟩ ++ ⟨#[32]⟩) : ByteArray) = ⟨(catW (WL.take (k + 1))).toArray⟩ := by rw [str_snoc, str_app, HNX.out]
      have HEQ := Lib.hid hEQ
      clear hEQ
      refine held_begin (n := 6) (bs := #[false, false, false, false, false, false]) rfl rfl (by kernel_rfl) (S := fun _ => True) trivial (fun hHeld => ?_)
      ((first | refine held_sk (i := 1) ?_ | refine held_tk (i := 1) ?_))
      refine held_two (i := 0) (j := 2) rfl rfl (by kernel_rfl) (fun K hK => ?_) (fun K hK => ?_)
      · go_simp
        (refine held_back hK (a' := ?hA3) (l' := ?hL3) ?ha3 ?hl3 (trivial) (fun hHeld => ?hh3); (case ha3 => first | with_reducible rfl | (simp only [Act.put, hq1, hq2, hq3, Option.isNone, Bool.not_true, Bool.not_false]; (try with_reducible rfl))); (case hl3 => (simp only [Act.put, hq1, hq2, hq3, Option.isNone, Bool.not_true, Bool.not_false]; (try with_reducible rfl))); clear hK K)
        refine held_one (i := 2) rfl (by kernel_rfl) (fun K hK => ?_)
        go_simp
        go_at_call 28
        (with_reducible refine (IT.out _ HFr.out.drew).mono ?_)
        rintro e w6 ⟨rfl, hf6⟩
        have hf := (Below.refl _ wr).drew.trans hf6
        obtain ⟨hc6, hz6, hh6, hg6⟩ := FIN.out w6 hf
        (have Hh6 := Lib.hid hh6; clear hh6; have Hg6 := Lib.hid hg6; clear hg6)
        (refine held_back hK (a' := ?hA4) (l' := ?hL4) ?ha4 ?hl4 (trivial) (fun hHeld => ?hh4); (case ha4 => first | with_reducible rfl | (simp only [Act.put, hq1, hq2, hq3, Option.isNone, Bool.not_true, Bool.not_false]; (try with_reducible rfl))); (case hl4 => (simp only [Act.put, hq1, hq2, hq3, Option.isNone, Bool.not_true, Bool.not_false]; (try with_reducible rfl))); clear hK K)
        ((first | refine held_sk (i := 3) ?_ | refine held_tk (i := 3) ?_); (first | refine held_sk (i := 4) ?_ | refine held_tk (i := 4) ?_))
        refine held_one (i := 5) rfl (by kernel_rfl) (fun K hK => ?_)
        go_simp
        (refine held_back hK (a' := ?hA5) (l' := ?hL5) ?ha5 ?hl5 (trivial) (fun hHeld => ?hh5); (case ha5 => first | with_reducible rfl | (simp only [Act.put, hq1, hq2, hq3, Option.isNone, Bool.not_true, Bool.not_false]; (try with_reducible rfl))); (case hl5 => (simp only [Act.put, hq1, hq2, hq3, Option.isNone, Bool.not_true, Bool.not_false]; (try with_reducible rfl))); clear hK K)
        refine wpAnyH_done (by kernel_rfl) ?_ _
        rw [HEQ.out]
        clear hHeld
        go_wp2_with fail
        go_roundw
        case rel => exact ⟨k + 1, by omega, by go_num, Hh6.out, Hg6.out⟩
        case measure => simp [intOf]; omega
      · go_simp
        go_at_call 28
        (with_reducible refine (IT.out _ HFr.out.drew).mono ?_)
        rintro e w6 ⟨rfl, hf6⟩
        have hf := (Below.refl _ wr).drew.trans hf6
        obtain ⟨hc6, hz6, hh6, hg6⟩ := FIN.out w6 hf
        (have Hh6 := Lib.hid hh6; clear hh6; have Hg6 := Lib.hid hg6; clear hg6)
        (refine held_back hK (a' := ?hA6) (l' := ?hL6) ?ha6 ?hl6 (trivial) (fun hHeld => ?hh6); (case ha6 => first | with_reducible rfl | (simp only [Act.put, hq1, hq2, hq3, Option.isNone, Bool.not_true, Bool.not_false]; (try with_reducible rfl))); (case hl6 => (simp only [Act.put, hq1, hq2, hq3, Option.isNone, Bool.not_true, Bool.not_false]; (try with_reducible rfl))); clear hK K)
        ((first | refine held_sk (i := 3) ?_ | refine held_tk (i := 3) ?_))
        refine held_one (i := 0) rfl (by kernel_rfl) (fun K hK => ?_)
        go_simp
        (refine held_back hK (a' := ?hA7) (l' := ?hL7) ?ha7 ?hl7 (trivial) (fun hHeld => ?hh7); (case ha7 => first | with_reducible rfl | (simp only [Act.put, hq1, hq2, hq3, Option.isNone, Bool.not_true, Bool.not_false]; (try with_reducible rfl))); (case hl7 => (simp only [Act.put, hq1, hq2, hq3, Option.isNone, Bool.not_true, Bool.not_false]; (try with_reducible rfl))); clear hK K)
        ((first | refine held_sk (i := 4) ?_ | refine held_tk (i := 4) ?_))
        refine held_one (i := 5) rfl (by kernel_rfl) (fun K hK => ?_)
        go_simp
        (refine held_back hK (a' := ?hA8) (l' := ?hL8) ?ha8 ?hl8 (trivial) (fun hHeld => ?hh8); (case ha8 => first | with_reducible rfl | (simp only [Act.put, hq1, hq2, hq3, Option.isNone, Bool.not_true, Bool.not_false]; (try with_reducible rfl))); (case hl8 => (simp only [Act.put, hq1, hq2, hq3, Option.isNone, Bool.not_true, Bool.not_false]; (try with_reducible rfl))); clear hK K)
        refine wpAnyH_done (by kernel_rfl) ?_ _
        rw [HEQ.out]
        clear hHeld
        go_wp2_with fail
        go_roundw
        case rel => exact ⟨k + 1, by omega, by go_num, Hh6.out, Hg6.out⟩
        case measure => simp [intOf]; omega
    · have hk' : k = 11 := by omega
      have HS' : Hid (wr.heap[sb]? = some (.cells #[sV (catW WL)] 9 (0, 0))) := by
        have := HS.out
        rw [hk', List.take_of_length_le (by omega)] at this
        exact this
      have HFr : Hid (Fr w wr) := HC.out.fr HF4.out fun x e => by have e : x = sb := e; omega
      have hlk : (catW WL).length ≤ 11000022 := by
        have := catW_len 1000001 WL HWM.out
        rw [hwl] at this; omega
      have hbs : b ≠ sb := by have := HBW.out; omega
      have HRr := Lib.hid (HC.out.blk HR4.out hbs)
      have hsz := HFr.out.size
      have SA : Hid (Sl 1 eByte wr (LT sb) A na r.s.data) := (HA.out.2.keep sByte fun x hx => HFr.out.cell hx).more sByte fun x hx => Nat.lt_trans hx hsw
      have hn1 : na ≤ 1000000 := by omega
      have hn2 : nb ≤ 1000000 := by omega
      have hcf : ∀ (args : Array Value) (W : World), (callFunc 38 args).run Tryz.prog W = .ok (.enter 38 args) W := entersW Tryz.func38 (by kernel_rfl) (by kernel_rfl)
      have P1 : Hid (Calls Tryz.prog 38 #[.slice A na cc, .pointer (some ⟨sb, 0, none⟩)] wr fun e w' => e = .returned (.tuple #[]) ∧ w'.heap[sb]? = some (.cells #[sV (catW WL ++ 45 :: hexE r.s.data)] 9 (0, 0)) ∧ Chg (fun b => b = sb) wr w') := refPut_any wr A na cc r.s.data sb (catW WL) SA.out hn1 (by omega) HS'.out
      have hl1' := hl1
      have hl2' := hl2
      clear hk' HS hl1 hl2 HC
      obtain ⟨D1, hD1⟩ : ∃ D1, D1 = catW WL ++ 45 :: hexE r.s.data := ⟨_, rfl⟩
      have hd1 : D1.length ≤ 12000022 := by rw [hD1, List.length_append, List.length_cons, hexE_length]; omega
      rw [← hD1] at P1
      have HD1 := Lib.hid hD1
      have hrx := HRr.out
      have HHN1 := Lib.hid hn1
      have HHN2 := Lib.hid hn2
      clear hD1 hn1 hn2 hr1 hr2 hl1' hl2'
      (obtain ⟨bx0, bx1, bx2, bx3, bx4, bx5, bx6, bx7, bx8, bx9, bx10, bx11, bx12⟩ := box13_ hrx)
      clear hrx
      go_upto_region 11 with fail
      go_cut [] (fun wx => Hid (wx.heap[sb]? = some (.cells #[sV D1] 9 (0, 0))) ∧ Hid (Chg (fun b => b = sb) wr wx))
      case first =>
        repeat' (first | (refine wpList_callv _ _ _ (by rfl) (by kernel_rfl) 38 #[.pointer (some ⟨sb, 0, none⟩)] (by rfl) hcf #[.slice A na cc, .pointer (some ⟨sb, 0, none⟩)] (by kernel_rfl) P1.out ?_; rintro e w5 ⟨rfl, hs5, hc5⟩; refine ⟨_, rfl, ?_⟩) | go_values | go_skip | go_guarded | go_step | go_upon | go_back)
        go_meet
        exact ⟨hs5, hc5⟩
      case rest =>
      obtain ⟨HS5, HC5⟩ := hcut
      obtain ⟨w5, rfl⟩ : ∃ w5, w5 = wc := ⟨_, rfl⟩
      obtain ⟨W6, hW6⟩ : ∃ W6, W6 = w5.setCell ⟨sb, 0, none⟩ (.string ⟨(D1 ++ [32]).toArray⟩) := ⟨_, rfl⟩
      have hc6 : Chg (fun b => b = sb) wr W6 := by rw [hW6]; exact Chg.set (p := ⟨sb, 0, none⟩) HC5.out rfl _
      have hs6 : W6.heap[sb]? = some (.cells #[sV (D1 ++ [32])] 9 (0, 0)) := by rw [hW6]; exact stor1_ HS5.out
      have HF6 : Hid (Fr w W6) := hc6.fr HFr.out fun x e => by have e : x = sb := e; omega
      have hrx := hc6.blk HRr.out hbs
      have SB : Hid (Sl 1 eByte W6 (LT sb) B nb r.cargo) := (HB.out.2.keep sByte fun x hx => HF6.out.cell hx).more sByte fun x hx => Nat.lt_trans hx hsw
      have hlt1 : (D1 ++ [32]).length ≤ 40000000 := by rw [List.length_append, List.length_singleton]; omega
      have P2 : Hid (Calls Tryz.prog 38 #[.slice B nb cb, .pointer (some ⟨sb, 0, none⟩)] W6 fun e w' => e = .returned (.tuple #[]) ∧ w'.heap[sb]? = some (.cells #[sV ((D1 ++ [32]) ++ 45 :: hexE r.cargo)] 9 (0, 0)) ∧ Chg (fun b => b = sb) W6 w') := refPut_any W6 B nb cb r.cargo sb (D1 ++ [32]) SB.out HHN2.out hlt1 hs6
      have hfin : (D1 ++ [32]) ++ 45 :: hexE r.cargo = (printF r).1 := by rw [hp.out, HD1.out, recText_cat, ← HWL.out]; simp
      rw [hfin] at P2
      have hd5 := box1_ HS5.out
      have hz5 := blk_free (i := 0) HS5.out
      have i0 : ¬ 9223372036854775807 < D1.length + 1 := by omega
      have hWW : w5.setCell ⟨sb, 0, none⟩ (.string ⟨(D1 ++ [32]).toArray⟩) = W6 := hW6.symm
      clear hW6 hc6 hs6 hlt1 hfin hd1 bx0 bx1 bx2 bx3 bx4 bx5 bx6 bx7 bx8 bx9 bx10 bx11 bx12
      (obtain ⟨bx0, bx1, bx2, bx3, bx4, bx5, bx6, bx7, bx8, bx9, bx10, bx11, bx12⟩ := box13_ hrx)
      clear hrx
      go_upto_region 13 with fail
      rw [str_snoc, hWW]
      clear hWW hd5 hz5 i0
      go_cut [] (fun wx => Hid (wx.heap[sb]? = some (.cells #[sV (printF r).1] 9 (0, 0))) ∧ Hid (Chg (fun b => b = sb) W6 wx))
      case first =>
        repeat' (first | (refine wpList_callv _ _ _ (by rfl) (by kernel_rfl) 38 #[.pointer (some ⟨sb, 0, none⟩)] (by rfl) hcf #[.slice B nb cb, .pointer (some ⟨sb, 0, none⟩)] (by kernel_rfl) P2.out ?_; rintro e w5 ⟨rfl, hs5, hc5⟩; refine ⟨_, rfl, ?_⟩) | go_values | go_skip | go_guarded | go_step | go_upon | go_back)
        go_meet
        exact ⟨hs5, hc5⟩
      case rest =>
      obtain ⟨HS7, HC7⟩ := hcut
      have hd7 := box1_ HS7.out
      have he : (printF r).2 = 0 := by rw [hp.out]
      have HE := Lib.hid he
      clear he
      have HF7 : Hid (Fr w wc) := HC7.out.fr HF6.out fun x e => by have e : x = sb := e; omega
      go_wp2_with fail
      go_ret2
      rw [HE.out]
      exact ⟨rfl, HF7.out⟩
end Go.Proofs.YtbincgbgeccccaaGreatDoor
namespace Go.Proofs.YtbincgbgeccccaaGreatDoor
open Go.RowKit
attribute [local irreducible] wpList

theorem fmt_any (w : World) (v : Vars w) (n : Int) (h : wfI n) : Calls Tryz.prog 58 #[.int .i64 n, .int .i64 10] w fun e w' => e = .returned (sV (Lib.itoa n)) ∧ Fr w w' := by
  refine (Tryz.strconv_FormatInt_10 n h.bd.1 h.bd.2 w v.pow).mono ?_
  rintro e w' ⟨rfl, k, os, rfl⟩
  exact ⟨rfl, (frDrewN w k).trans (grow_fr _ os)⟩
theorem pint_any (w : World) (v : Vars w) (l : List UInt8) (hl : l.length ≤ 1000000) : Calls Tryz.prog 57 #[sV l, .int .i64 10, .int .i64 64] w fun e w' => Fr w w' ∧ match Lib.atoiAll l with
    | .ok n => e = .returned (.tuple #[.int .i64 n, .nilIface])
    | _ => ∃ n t p, e = .returned (.tuple #[.int .i64 n, .iface t p]) := by
  have hs := sV_size l
  have ht := Lib.parseIntB_64 l
  cases ha : Lib.atoiAll l
  case ok n =>
    refine (Tryz.strconv_ParseInt_10_at64_ok ⟨l.toArray⟩ (by omega) n (by rw [sV_data, ht]; exact ha) w).mono ?_
    rintro e w' ⟨rfl, h⟩
    refine ⟨?_, rfl⟩
    rcases h with rfl | ⟨t, rfl⟩
    · exact Below.refl _ _
    · unfold Lib.bytesWorld
      refine Lib.below_freeze (B := w.heap.size) ?_ ?_ _
      · (repeat' (first | exact Below.refl _ _ | refine below_drewN ?_ _ | refine Below.drew ?_ | refine frA ?_ _))
      · exact Nat.le_refl _
  case range =>
    obtain ⟨tp, p, hv⟩ := v.ran
    refine (Tryz.strconv_ParseInt_10_at64_range_var ⟨l.toArray⟩ (by omega) (by rw [sV_data, ht]; exact ha) tp p w hv).mono ?_
    rintro e w' ⟨N, rfl, _, _, hb⟩
    exact ⟨hb, _, _, _, rfl⟩
  · obtain ⟨tp, p, hv⟩ := v.syn
    refine (Tryz.strconv_ParseInt_10_at64_syntax_var ⟨l.toArray⟩ (by omega) (by rw [sV_data, ht]; exact ha) tp p w hv).mono ?_
    rintro e w' ⟨N, rfl, _, _, hb⟩
    exact ⟨hb, _, _, _, rfl⟩
set_option maxRecDepth 100000 in
theorem refBad_any (w : World) (c : Int) : Calls Tryz.prog 56 #[.int .i64 c] w fun e w' => e = .returned (.tuple #[.agg #[.int .i64 0, .int .i64 0, .int .i64 0, .int .i64 0, .int .i64 0, .int .i64 0, .int .i64 0, .int .i64 0, .int .i64 0, .int .i64 0, .int .i64 0, .slice none 0 0, .slice none 0 0], .int .i64 c]) ∧ Fr w w' := by
  obtain ⟨W1, hW1⟩ : ∃ W1, W1 = w.alloc (.cells #[.int .i64 0, .int .i64 0, .int .i64 0, .int .i64 0, .int .i64 0, .int .i64 0, .int .i64 0, .int .i64 0, .int .i64 0, .int .i64 0, .int .i64 0, .slice none 0 0, .slice none 0 0] 33) := ⟨_, rfl⟩
  obtain ⟨q, hq⟩ : ∃ q, q = w.heap.size := ⟨_, rfl⟩
  have hq1 : W1.heap[q]? = some (.cells #[.int .i64 0, .int .i64 0, .int .i64 0, .int .i64 0, .int .i64 0, .int .i64 0, .int .i64 0, .int .i64 0, .int .i64 0, .int .i64 0, .int .i64 0, .slice none 0 0, .slice none 0 0] 33 (0, 0)) := by rw [hW1]; exact heap_new hq
  have HF1 : Hid (Fr w W1) := by rw [hW1]; exact frAlloc _ _
  have HQ := Lib.hid hq
  (obtain ⟨bq0, bq1, bq2, bq3, bq4, bq5, bq6, bq7, bq8, bq9, bq10, bq11, bq12⟩ := box13_ hq1)
  have y0 := blk_free (i := 0) hq1
  have y1 := blk_free (i := 1) hq1
  have y2 := blk_free (i := 2) hq1
  have y3 := blk_free (i := 3) hq1
  have y4 := blk_free (i := 4) hq1
  have y5 := blk_free (i := 5) hq1
  have y6 := blk_free (i := 6) hq1
  have y7 := blk_free (i := 7) hq1
  have y8 := blk_free (i := 8) hq1
  have y9 := blk_free (i := 9) hq1
  have y10 := blk_free (i := 10) hq1
  have y11 := blk_free (i := 11) hq1
  have y12 := blk_free (i := 12) hq1
  have lq := (Array.getElem?_eq_some_iff.1 hq1).1
  go_enter Tryz.func56, Tryz.ntmps56
  go_upto_region 1 with fail
  rw [← hW1, ← hq]
  clear hW1 hq hq1
  go_wp2_with fail
  refine bodyPost_ret (v := .tuple #[.agg #[.int .i64 0, .int .i64 0, .int .i64 0, .int .i64 0, .int .i64 0, .int .i64 0, .int .i64 0, .int .i64 0, .int .i64 0, .int .i64 0, .int .i64 0, .slice none 0 0, .slice none 0 0], .int .i64 c]) ?_ rfl ⟨rfl, bel13_ HF1.out (by have := HQ.out; omega)⟩
  simp [results, Tryz.results56, go_sem, bq0, bq1, bq2, bq3, bq4, bq5, bq6, bq7, bq8, bq9, bq10, bq11, bq12, lq]
theorem six_val : ∀ (a b : UInt8), 0 ≤ Lib.indexByte sixteen a → 0 ≤ Lib.indexByte sixteen b → Lib.indexByte sixteen a * 16 + Lib.indexByte sixteen b < 256 := fun a b ha hb => by
  have h1 := (index_hexD ha).1
  have h2 := (index_hexD hb).1
  omega
end Go.Proofs.YtbincgbgeccccaaGreatDoor
namespace Go.Proofs.YtbincgbgeccccaaGreatDoor
open Go.RowKit

theorem Chg.bel {S : Nat → Prop} {a b c : World} {B : Nat} (h : Chg S a b) (hB : a.heap.size ≤ B) (k : Below B b c) : Chg S a c :=
  ⟨k.os.trans h.os, k.tape.trans h.tape, k.output.trans h.output, Nat.le_trans h.size k.size, fun x hx hn => (k.block x (Nat.lt_of_lt_of_le hx hB)).trans (h.block x hx hn)⟩
theorem Own.flatSet {α : Type} {size base : Nat} {r : ERd α} {w w' : World} {e : TypeId} {v : Value} {xs : List α} {T : Nat → Prop} (s : ∀ {w w' : World} {S S' : Nat → Prop} {f : Nat → Option Value} {x : α}, r w S f x → r w' S' f x) (h : Own size r w base e v xs) (k : Chg T w w') (hT : ∀ b, T b → b < base) : Own size r w' base e v xs := by
  obtain ⟨cs, ho, hr⟩ := h
  refine ⟨cs, ⟨ho.1, ?_⟩, fun i x hx => s (hr i x hx)⟩
  rcases ho.2 with h0 | ⟨g, cap, cur, h1, h2, h3, h4⟩
  · exact .inl h0
  · exact .inr ⟨g, cap, cur, h1, h2, k.blk h3 (fun e => by have := hT g e; omega), h4⟩
abbrev cv (vs : List Value) : Array Value := ca (fun v : Value => v) vs
/-- The first i words are read, each into a slice of its own; the rest is empty. -/
def Wd (PS : List (List UInt8)) (base : Nat) (w : World) (i : Nat) (vs : List Value) (ds : List (List UInt8)) : Prop :=
  vs.length = 2 ∧ ds.length = i ∧ (∀ j d, ds[j]? = some d → ∃ p A c, PS[11 + j]? = some p ∧ wordR p = some d ∧ vs[j]? = some (.slice A d.length c) ∧ (d.length ≤ c ∧ c ≤ maxLen) ∧ Sl 1 eByte w (NW base w.heap.size) A d.length d) ∧ (∀ j, i ≤ j → j < 2 → vs[j]? = some (.slice none 0 0))
theorem Wd.zero {PS : List (List UInt8)} {base : Nat} {w : World} : Wd PS base w 0 [.slice none 0 0, .slice none 0 0] [] :=
  ⟨rfl, rfl, fun j d h => by simp at h, fun j _ hj => by
    have : j = 0 ∨ j = 1 := by omega
    rcases this with rfl | rfl <;> rfl⟩
theorem Wd.chg {PS : List (List UInt8)} {base bb i : Nat} {w w' : World} {vs : List Value} {ds : List (List UInt8)} (h : Wd PS base w i vs ds) (k : Chg (fun b => b = bb) w w') (hb : bb < base) : Wd PS base w' i vs ds := by
  obtain ⟨h1, h2, h3, h4⟩ := h
  refine ⟨h1, h2, fun j d hd => ?_, h4⟩
  obtain ⟨p, A, c, q1, q2, q3, q4, q5⟩ := h3 j d hd
  refine ⟨p, A, c, q1, q2, q3, q4, (q5.chg sByte k fun b hb' => ⟨hb'.2, fun e => ?_⟩).more sByte fun b hb' => ⟨hb'.1, Nat.lt_of_lt_of_le hb'.2 k.size⟩⟩
  have e : b = bb := e
  have := hb'.1
  omega
theorem Wd.step {PS : List (List UInt8)} {base i : Nat} {w : World} {vs : List Value} {ds : List (List UInt8)} (h : Wd PS base w i vs ds) (hi : i < 2) {p d : List UInt8} (hp : PS[11 + i]? = some p) (hw : wordR p = some d) {v : Value} {base' : Nat} {e : TypeId} (hb : base ≤ base') (ho : Own 1 eByte w base' e v d) : Wd PS base w (i + 1) (vs.set i v) (ds ++ [d]) := by
  obtain ⟨h1, h2, h3, h4⟩ := h
  obtain ⟨A, c, rfl, hc, hs⟩ := ho.nwByt
  refine ⟨by rw [List.length_set]; exact h1, by simp [h2], fun j d' hd => ?_, fun j hj hj2 => ?_⟩
  · by_cases hji : j = i
    · subst hji
      rw [List.getElem?_append_right (by omega), h2, Nat.sub_self] at hd
      simp at hd
      subst hd
      exact ⟨p, A, c, hp, hw, by rw [List.getElem?_set_self (by omega)], hc, hs.more sByte fun b hb' => ⟨Nat.le_trans hb hb'.1, hb'.2⟩⟩
    · have hlt : j < i := by
        by_cases h : j < ds.length
        · omega
        · rw [List.getElem?_append_right (by omega)] at hd
          have := (List.getElem?_eq_some_iff.1 hd).1
          simp at this; omega
      rw [List.getElem?_append_left (by omega)] at hd
      obtain ⟨p', A', c', q1, q2, q3, q4, q5⟩ := h3 j d' hd
      exact ⟨p', A', c', q1, q2, by rw [List.getElem?_set_ne (by omega)]; exact q3, q4, q5⟩
  · rw [List.getElem?_set_ne (by omega)]; exact h4 j (by omega) hj2
/-- Both read. -/
theorem Wd.out {PS : List (List UInt8)} {base : Nat} {w : World} {vs : List Value} {ds : List (List UInt8)} (h : Wd PS base w 2 vs ds) : ∃ p1 p2 d1 d2 A1 c1 A2 c2, PS[11]? = some p1 ∧ PS[12]? = some p2 ∧ wordR p1 = some d1 ∧ wordR p2 = some d2 ∧ vs = [.slice A1 d1.length c1, .slice A2 d2.length c2] ∧ ((d1.length ≤ c1 ∧ c1 ≤ maxLen) ∧ Sl 1 eByte w (NW base w.heap.size) A1 d1.length d1) ∧ ((d2.length ≤ c2 ∧ c2 ≤ maxLen) ∧ Sl 1 eByte w (NW base w.heap.size) A2 d2.length d2) := by
  obtain ⟨h1, h2, h3, _⟩ := h
  match ds, h2, h3 with
  | [d1, d2], _, h3 =>
    obtain ⟨p1, A1, c1, q1, q2, q3, q4, q5⟩ := h3 0 d1 rfl
    obtain ⟨p2, A2, c2, r1, r2, r3, r4, r5⟩ := h3 1 d2 rfl
    match vs, h1, q3, r3 with
    | [v0, v1], _, q3, r3 =>
      simp at q3 r3
      subst q3 r3
      exact ⟨p1, p2, d1, d2, A1, c1, A2, c2, q1, r1, q2, r2, rfl, ⟨q4, q5⟩, ⟨r4, r5⟩⟩
theorem set_self_ {α : Type} {l : List α} {i : Nat} {x : α} (h : l[i]? = some x) : l.set i x = l := by
  obtain ⟨hl, e⟩ := List.getElem?_eq_some_iff.1 h
  rw [← e]; exact List.set_getElem_self hl
theorem wordR_cons (x : UInt8) (m : List UInt8) : wordR (x :: m) = if x = 45 then hexR m else none := rfl
theorem wordR_even {p : List UInt8} (h : p.length % 2 = 0) : wordR p = none := by
  cases p with
  | nil => rfl
  | cons x m =>
    rw [wordR_cons]
    by_cases hx : x = 45
    · rw [if_pos hx]; exact hexR_odd m (by simp only [List.length_cons] at h; omega)
    · rw [if_neg hx]
theorem wordR_sign {x : UInt8} {m : List UInt8} (h : x ≠ 45) : wordR (x :: m) = none := by rw [wordR_cons, if_neg h]
theorem wordR_ok {m : List UInt8} : wordR (45 :: m) = hexR m := by rw [wordR_cons, if_pos rfl]
/-- What recRead answers when a word is none, when both are some. -/
theorem recRead_none {l : List UInt8} {PS : List (List UInt8)} (hPS : PS = pieces 32 l) (h13 : PS.length = 13) {ns : List Int} (hn : intsR (PS.take 11) = some ns) {i : Nat} (hi : i < 2) {p : List UInt8} (hp : PS[11 + i]? = some p) (hw : wordR p = none) : recRead l = (Rc.zero, 1) := by
  unfold recRead
  rw [← hPS, if_neg (by simp [h13]), hn]
  simp only [List.getD_eq_getElem?_getD]
  have : i = 0 ∨ i = 1 := by omega
  rcases this with rfl | rfl
  · rw [hp, Option.getD_some, hw]
  · cases wordR (PS[11]?.getD []) with
    | none => rfl
    | some d => simp only []; rw [hp, Option.getD_some, hw]
theorem recRead_some {l : List UInt8} {PS : List (List UInt8)} (hPS : PS = pieces 32 l) (h13 : PS.length = 13) {ns : List Int} (hn : intsR (PS.take 11) = some ns) {p1 p2 d1 d2 : List UInt8} (hp1 : PS[11]? = some p1) (hp2 : PS[12]? = some p2) (hw1 : wordR p1 = some d1) (hw2 : wordR p2 = some d2) : recRead l = if recCheck (recOf ns d1 d2) ≠ 0 then (Rc.zero, recCheck (recOf ns d1 d2)) else (recOf ns d1 d2, 0) := by
  unfold recRead
  rw [← hPS, if_neg (by simp [h13]), hn]
  simp only [List.getD_eq_getElem?_getD]
  rw [hp1, Option.getD_some, hw1]
  simp only []
  rw [hp2, Option.getD_some, hw2]
end Go.Proofs.YtbincgbgeccccaaGreatDoor
