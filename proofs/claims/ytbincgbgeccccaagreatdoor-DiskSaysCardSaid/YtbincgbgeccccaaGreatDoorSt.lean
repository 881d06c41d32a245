/- Readings of structs: one behind the other. No condition. -/
import Derived.Test.YtbincgbgeccccaaGreatDoorOwn
set_option linter.unusedSimpArgs false
set_option linter.unusedVariables false
namespace Go.Proofs.YtbincgbgeccccaaGreatDoor
open Go.RowKit

/-- Two readings, one behind the other. -/
def ePair {α β : Type} (s : Nat) (r : ERd α) (q : ERd β) : ERd (α × β) := fun w S f p => r w S f p.1 ∧ q w S (fun j => f (s + j)) p.2
/-- A reading under other names. -/
def eMap {α β : Type} (g : β → α) (r : ERd α) : ERd β := fun w S f x => r w S f (g x)

theorem Stable.pair {α β : Type} {a b : Nat} {r : ERd α} {q : ERd β} (h : Stable a r) (k : Stable b q) : Stable (a + b) (ePair a r q) where
  keep hk hx := ⟨h.keep hk hx.1, k.keep hk hx.2⟩
  more hS hx := ⟨h.more hS hx.1, k.more hS hx.2⟩
  mono hf hx := ⟨h.mono (fun j u hj => hf j u (by omega)) hx.1, k.mono (fun j u hj => hf (a + j) u (by omega)) hx.2⟩
theorem Full.pair {α β : Type} {a b : Nat} {r : ERd α} {q : ERd β} (h : Full a r) (k : Full b q) : Full (a + b) (ePair a r q) := fun hx j hj => by
  rcases Nat.lt_or_ge j a with h1 | h1
  · exact h hx.1 j h1
  · obtain ⟨u, hu, h2⟩ := k hx.2 (j - a) (by omega)
    exact ⟨u, by rw [← hu]; congr 1; omega, h2⟩
theorem Stable.map {α β : Type} {a : Nat} {r : ERd α} (g : β → α) (h : Stable a r) : Stable a (eMap g r) := ⟨fun hk hx => h.keep hk hx, fun hS hx => h.more hS hx, fun hf hx => h.mono hf hx⟩
theorem Full.map {α β : Type} {a : Nat} {r : ERd α} (g : β → α) (h : Full a r) : Full a (eMap g r) := fun hx j hj => h hx j hj

/-- Heads of bundles. -/
structure Hd where
  frm : Int
  seq : Int
  to : Int
  till : Int
  bytes : Int
  block : Int
deriving DecidableEq
def Hd.tup (h : Hd) : Int × Int × Int × Int × Int × Int := (h.frm, h.seq, h.to, h.till, h.bytes, h.block)
abbrev eHdT : ERd (Int × Int × Int × Int × Int × Int) := ePair 1 eInt (ePair 1 eInt (ePair 1 eInt (ePair 1 eInt (ePair 1 eInt eInt))))
def eHd : ERd Hd := eMap Hd.tup eHdT
theorem sHd : Stable 6 eHd := .map _ (sInt.pair (sInt.pair (sInt.pair (sInt.pair (sInt.pair sInt)))))
theorem fHd : Full 6 eHd := Full.map _ (fInt.pair (fInt.pair (fInt.pair (fInt.pair (fInt.pair fInt)))))
def Hd.wf (h : Hd) : Prop := wfI h.frm ∧ wfI h.seq ∧ wfI h.to ∧ wfI h.till ∧ wfI h.bytes ∧ wfI h.block

/-- Symbols. -/
structure Sm where
  id : Int
  data : List UInt8
deriving DecidableEq
def Sm.tup (s : Sm) : Int × List UInt8 := (s.id, s.data)
def eSm : ERd Sm := eMap Sm.tup (ePair 1 eInt eBlock)
theorem sSm : Stable 2 eSm := .map _ (sInt.pair wBlock)
theorem fSm : Full 2 eSm := Full.map _ (fInt.pair fSl)

/-- Frames. -/
structure Fm where
  kind : Int
  h : Hd
  s : Sm
  n : Int
  try_ : Int
deriving DecidableEq
def Fm.tup (f : Fm) : Int × Hd × Sm × Int × Int := (f.kind, f.h, f.s, f.n, f.try_)
def eFm : ERd Fm := eMap Fm.tup (ePair 1 eInt (ePair 6 eHd (ePair 2 eSm (ePair 1 eInt eInt))))
theorem sFm : Stable 11 eFm := .map _ (sInt.pair (sHd.pair (sSm.pair (sInt.pair sInt))))
theorem fFm : Full 11 eFm := Full.map _ (fInt.pair (fHd.pair (fSm.pair (fInt.pair fInt))))
def Fm.wf (f : Fm) : Prop := wfI f.kind ∧ f.h.wf ∧ wfI f.s.id ∧ wfI f.n ∧ wfI f.try_

/-- Mail. -/
structure Ml where
  frm : Int
  to : Int
  f : Fm
deriving DecidableEq
def Ml.tup (m : Ml) : Int × Int × Fm := (m.frm, m.to, m.f)
def eMl : ERd Ml := eMap Ml.tup (ePair 1 eInt (ePair 1 eInt eFm))
theorem sMl : Stable 13 eMl := .map _ (sInt.pair (sInt.pair sFm))
theorem fMl : Full 13 eMl := Full.map _ (fInt.pair (fInt.pair fFm))
def Ml.wf (m : Ml) : Prop := wfI m.frm ∧ wfI m.to ∧ m.f.wf

/-- A slice of bytes that may be handed on. -/
def Byt (w : World) (S : Nat → Prop) (A : Option Addr) (n c : Nat) (l : List UInt8) : Prop := (n * 1 ≤ lim ∧ n ≤ c ∧ c ≤ maxLen) ∧ Sl 1 eByte w S A n l

theorem eHd_iff {w : World} {S : Nat → Prop} {f : Nat → Option Value} {h : Hd} : eHd w S f h ↔ (f 0 = some (.int .i64 h.frm) ∧ f 1 = some (.int .i64 h.seq) ∧ f 2 = some (.int .i64 h.to) ∧ f 3 = some (.int .i64 h.till) ∧ f 4 = some (.int .i64 h.bytes) ∧ f 5 = some (.int .i64 h.block)) ∧ h.wf := by
  simp only [eHd, eMap, Hd.tup, ePair, eInt, Hd.wf, Nat.add_zero, Nat.reduceAdd]
  constructor
  · rintro ⟨⟨a1, b1⟩, ⟨a2, b2⟩, ⟨a3, b3⟩, ⟨a4, b4⟩, ⟨a5, b5⟩, a6, b6⟩
    exact ⟨⟨a1, a2, a3, a4, a5, a6⟩, b1, b2, b3, b4, b5, b6⟩
  · rintro ⟨⟨a1, a2, a3, a4, a5, a6⟩, b1, b2, b3, b4, b5, b6⟩
    exact ⟨⟨a1, b1⟩, ⟨a2, b2⟩, ⟨a3, b3⟩, ⟨a4, b4⟩, ⟨a5, b5⟩, a6, b6⟩
theorem eSm_iff {w : World} {S : Nat → Prop} {f : Nat → Option Value} {s : Sm} : eSm w S f s ↔ ∃ A n c, (f 0 = some (.int .i64 s.id) ∧ f 1 = some (.slice A n c)) ∧ wfI s.id ∧ Byt w S A n c s.data := by
  simp only [eSm, eMap, Sm.tup, ePair, eInt, eBlock, eSl, Nat.add_zero, Byt]
  constructor
  · rintro ⟨⟨a1, b1⟩, A, n, c, a2, b2, b3⟩
    exact ⟨A, n, c, ⟨a1, a2⟩, b1, b2, b3⟩
  · rintro ⟨A, n, c, ⟨a1, a2⟩, b1, b2, b3⟩
    exact ⟨⟨a1, b1⟩, A, n, c, a2, b2, b3⟩
theorem eFm_iff {w : World} {S : Nat → Prop} {f : Nat → Option Value} {x : Fm} : eFm w S f x ↔ ∃ A n c, (f 0 = some (.int .i64 x.kind) ∧ f 1 = some (.int .i64 x.h.frm) ∧ f 2 = some (.int .i64 x.h.seq) ∧ f 3 = some (.int .i64 x.h.to) ∧ f 4 = some (.int .i64 x.h.till) ∧ f 5 = some (.int .i64 x.h.bytes) ∧ f 6 = some (.int .i64 x.h.block) ∧ f 7 = some (.int .i64 x.s.id) ∧ f 8 = some (.slice A n c) ∧ f 9 = some (.int .i64 x.n) ∧ f 10 = some (.int .i64 x.try_)) ∧ x.wf ∧ Byt w S A n c x.s.data := by
  unfold eFm eMap Fm.tup ePair
  simp only [eHd_iff, eSm_iff, eInt, Fm.wf, Nat.add_zero, Nat.reduceAdd]
  constructor
  · rintro ⟨⟨a1, b1⟩, ⟨⟨h1, h2, h3, h4, h5, h6⟩, b2⟩, ⟨A, n, c, ⟨s1, s2⟩, b3, b4⟩, ⟨a2, b5⟩, a3, b6⟩
    exact ⟨A, n, c, ⟨a1, h1, h2, h3, h4, h5, h6, s1, s2, a2, a3⟩, ⟨b1, b2, b3, b5, b6⟩, b4⟩
  · rintro ⟨A, n, c, ⟨a1, h1, h2, h3, h4, h5, h6, s1, s2, a2, a3⟩, ⟨b1, b2, b3, b5, b6⟩, b4⟩
    exact ⟨⟨a1, b1⟩, ⟨⟨h1, h2, h3, h4, h5, h6⟩, b2⟩, ⟨A, n, c, ⟨s1, s2⟩, b3, b4⟩, ⟨a2, b5⟩, a3, b6⟩
theorem eMl_iff {w : World} {S : Nat → Prop} {f : Nat → Option Value} {x : Ml} : eMl w S f x ↔ ∃ A n c, (f 0 = some (.int .i64 x.frm) ∧ f 1 = some (.int .i64 x.to) ∧ f 2 = some (.int .i64 x.f.kind) ∧ f 3 = some (.int .i64 x.f.h.frm) ∧ f 4 = some (.int .i64 x.f.h.seq) ∧ f 5 = some (.int .i64 x.f.h.to) ∧ f 6 = some (.int .i64 x.f.h.till) ∧ f 7 = some (.int .i64 x.f.h.bytes) ∧ f 8 = some (.int .i64 x.f.h.block) ∧ f 9 = some (.int .i64 x.f.s.id) ∧ f 10 = some (.slice A n c) ∧ f 11 = some (.int .i64 x.f.n) ∧ f 12 = some (.int .i64 x.f.try_)) ∧ x.wf ∧ Byt w S A n c x.f.s.data := by
  unfold eMl eMap Ml.tup ePair
  simp only [eFm_iff, eInt, Ml.wf, Nat.add_zero, Nat.reduceAdd]
  constructor
  · rintro ⟨⟨a1, b1⟩, ⟨a2, b2⟩, A, n, c, ⟨h1, h2, h3, h4, h5, h6, h7, h8, h9, h10, h11⟩, b3, b4⟩
    exact ⟨A, n, c, ⟨a1, a2, h1, h2, h3, h4, h5, h6, h7, h8, h9, h10, h11⟩, ⟨b1, b2, b3⟩, b4⟩
  · rintro ⟨A, n, c, ⟨a1, a2, h1, h2, h3, h4, h5, h6, h7, h8, h9, h10, h11⟩, ⟨b1, b2, b3⟩, b4⟩
    exact ⟨⟨a1, b1⟩, ⟨a2, b2⟩, A, n, c, ⟨h1, h2, h3, h4, h5, h6, h7, h8, h9, h10, h11⟩, b3, b4⟩
/-- The k-th element, of however many cells. -/
theorem Els.row {α : Type} {size : Nat} {r : ERd α} {w : World} {S : Nat → Prop} {n : Nat} {ad : Addr} {xs : List α} (h : Els size r w S ad n xs) {k : Nat} (hk : k < n) : ∃ x, xs[k]? = some x ∧ r w S (fun j => w.cell? ((ad.add (k * size)).add j)) x := by
  obtain ⟨x, hx, hr⟩ := h.at_ hk
  refine ⟨x, hx, ?_⟩
  have e : (fun j => w.cell? ((ad.add (k * size)).add j)) = fun j => w.cell? (ad.add (k * size + j)) := funext fun j => by rw [add_of_add]
  rw [e]; exact hr
theorem eMl_at {w : World} {S : Nat → Prop} {q : Addr} {x : Ml} (h : eMl w S (fun j => w.cell? (q.add j)) x) : ∃ A n c, (w.cell? q = some (.int .i64 x.frm) ∧ w.cell? ⟨q.block, q.off + 1, none⟩ = some (.int .i64 x.to) ∧ w.cell? ⟨q.block, q.off + 2, none⟩ = some (.int .i64 x.f.kind) ∧ w.cell? ⟨q.block, q.off + 3, none⟩ = some (.int .i64 x.f.h.frm) ∧ w.cell? ⟨q.block, q.off + 4, none⟩ = some (.int .i64 x.f.h.seq) ∧ w.cell? ⟨q.block, q.off + 5, none⟩ = some (.int .i64 x.f.h.to) ∧ w.cell? ⟨q.block, q.off + 6, none⟩ = some (.int .i64 x.f.h.till) ∧ w.cell? ⟨q.block, q.off + 7, none⟩ = some (.int .i64 x.f.h.bytes) ∧ w.cell? ⟨q.block, q.off + 8, none⟩ = some (.int .i64 x.f.h.block) ∧ w.cell? ⟨q.block, q.off + 9, none⟩ = some (.int .i64 x.f.s.id) ∧ w.cell? ⟨q.block, q.off + 10, none⟩ = some (.slice A n c) ∧ w.cell? ⟨q.block, q.off + 11, none⟩ = some (.int .i64 x.f.n) ∧ w.cell? ⟨q.block, q.off + 12, none⟩ = some (.int .i64 x.f.try_)) ∧ x.wf ∧ Byt w S A n c x.f.s.data := eMl_iff.1 h
theorem Byt.go {w w' : World} {A : Option Addr} {n c : Nat} {l : List UInt8} (h : Byt w (LT w.heap.size) A n c l) (hb : Fr w w') : Byt w' (LT w'.heap.size) A n c l := ⟨h.1, h.2.go sByte hb⟩
theorem blk_LT {w : World} {g : Nat} {o : Obj} (h : w.heap[g]? = some o) : LT w.heap.size g := (Array.getElem?_eq_some_iff.1 h).1
end Go.Proofs.YtbincgbgeccccaaGreatDoor
