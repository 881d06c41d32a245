/- What a place keeps, in plain words. No condition; no program in sight. -/
import Derived.Test.YtojoodmnmhcojaaNoteP
import Derived.Test.YtojoodmnmhcojaaDecF
set_option linter.unusedSimpArgs false
set_option linter.unusedVariables false
namespace Go.Proofs.Ytojoodmnmhcojaa

def symsErr (h : Hd) : List Sm → List Sm → Int
  | _, [] => 0
  | seen, s :: l => if codeCheck h.bytes h.block s.id s.data.length ≠ 0 then codeCheck h.bytes h.block s.id s.data.length else if seen.any (fun o => decide (o.id = s.id)) then 6 else symsErr h (seen ++ [s]) l
def tookErr : List Tk → List Tk → Int
  | _, [] => 0
  | seen, t :: l => if t.place < 0 ∨ 4 ≤ t.place ∨ t.try_ < 1 ∨ 9999 < t.try_ then 3 else if seen.any (fun o => decide (o = t)) then 6 else tookErr (seen ++ [t]) l
/-- What keep.shares answers. -/
def sharesCheck (k : Kp) (me : Int) : Int :=
  if k.shares < 0 ∨ 64 < k.shares ∨ k.giving < 0 ∨ 64 < k.giving ∨ k.towards < 0 ∨ 4 ≤ k.towards ∨ k.try_ < 0 ∨ 9999 < k.try_ then 3
  else if (k.giving = 0 ∧ k.towards ≠ 0) ∨ (0 < k.giving ∧ (k.towards = me ∨ k.try_ = 0)) then 4
  else if tookErr [] k.took ≠ 0 then tookErr [] k.took
  else if (k.delivered = true ∧ (k.h.to ≠ me ∨ k.purged = true)) ∨ ((k.delivered = true ∨ k.purged = true) ∧ (0 < k.syms.length ∨ 0 < k.shares + k.giving)) then 4 else 0
/-- What keep.kept answers. -/
def keptCheck (k : Kp) (me time : Int) : Int :=
  if hdCheck k.h ≠ 0 then hdCheck k.h
  else if k.h.till ≤ time then 7
  else if k.own ≠ decide (k.h.frm = me) ∨ k.own ≠ decide (0 < k.cargo.length) ∨ (k.own = true ∧ (k.cargo.length : Int) ≠ k.h.bytes) ∨ (k.own = true ∧ 0 < k.syms.length) then 4
  else if 60 < k.syms.length ∨ 40 < k.took.length then 2
  else if symsErr k.h [] k.syms ≠ 0 then symsErr k.h [] k.syms
  else sharesCheck k me
/-- Stands one head ahead of another one? -/
def aheadB (a b : Hd) : Bool := decide (a.frm < b.frm) || (decide (a.frm = b.frm) && decide (a.seq < b.seq))
def keepsErr (me time seq : Int) : Option Hd → List Kp → Int
  | _, [] => 0
  | prev, k :: l => if keptCheck k me time ≠ 0 then keptCheck k me time else if k.own = true ∧ seq ≤ k.h.seq then 4 else if prev.any (fun q => !aheadB q k.h) then 6 else keepsErr me time seq (some k.h) l
/-- What keep.Check answers. -/
def placeCheck (p : Pc) : Int :=
  if p.me < 0 ∨ 4 ≤ p.me ∨ p.time < 0 ∨ 1000000 < p.time ∨ p.seq < 0 ∨ 50 < p.seq then 3
  else if 12 < p.keep.length then 2
  else keepsErr p.me p.time p.seq none p.keep
/-- Where a bundle is. -/
def findAt (frm seq : Int) (l : List Kp) : Option Nat := l.findIdx? fun k => decide (k.h.frm = frm) && decide (k.h.seq = seq)
def findF (l : List Kp) (frm seq : Int) : Int := match findAt frm seq l with
  | some i => (i : Int)
  | none => -1
/-- Where a bundle belongs. -/
def placeAt (l : List Kp) (h : Hd) : Nat := (l.takeWhile fun k => aheadB k.h h).length
def insKp (l : List Kp) (k : Kp) : List Kp := l.take (placeAt l k.h) ++ k :: l.drop (placeAt l k.h)
def Kp.fresh (h : Hd) : Kp := ⟨h, false, [], [], 0, 0, 0, 0, [], false, false⟩
def Kp.sent (r : Rc) : Kp := ⟨r.h, true, r.cargo, [], r.n, 0, 0, 0, [], false, false⟩
/-- Nothing of it is needed any more. -/
def Kp.over (k : Kp) : Kp := { k with syms := [], shares := 0, giving := 0, towards := 0 }
/-- What a record makes of a bundle at a place. -/
def keepsF (k : Kp) (r : Rc) : Kp × Int :=
  if k.own = true then (k, 5) else if k.delivered = true ∨ k.purged = true then (k, 7) else if k.syms.any (fun s => decide (s.id = r.s.id)) then (k, 6) else if k.syms.length = 60 then (k, 2)
  else ({ k with syms := k.syms ++ [r.s] }, 0)
def deliverF (me : Int) (k : Kp) (r : Rc) : Kp × Int :=
  if k.h.to ≠ me then (k, 5) else if k.delivered = true ∨ k.purged = true then (k, 7)
  else if (decodeF k.h.bytes k.h.block k.syms).2 ≠ 0 then (k, (decodeF k.h.bytes k.h.block k.syms).2) else if (decodeF k.h.bytes k.h.block k.syms).1 ≠ r.cargo then (k, 9)
  else ({ k.over with delivered := true }, 0)
def purgeF (k : Kp) : Kp × Int := if k.delivered = true ∨ k.purged = true then (k, 7) else ({ k.over with purged := true }, 0)
def giveF (me : Int) (k : Kp) (r : Rc) : Kp × Int :=
  if r.place = me then (k, 5) else if 0 < k.giving ∨ r.try_ ≠ k.try_ + 1 then (k, 7) else if k.shares < 2 ∨ r.n ≠ k.shares / 2 then (k, 3)
  else ({ k with shares := k.shares - r.n, giving := r.n, towards := r.place, try_ := r.try_ }, 0)
def givenF (k : Kp) (r : Rc) : Kp × Int := if k.giving = 0 ∨ r.try_ ≠ k.try_ then (k, 7) else ({ k with giving := 0, towards := 0 }, 0)
def takeF (k : Kp) (r : Rc) : Kp × Int :=
  if r.try_ < 1 ∨ r.n < 1 ∨ 64 - k.shares < r.n then (k, 3) else if k.took.any (fun t => decide (t = ⟨r.place, r.try_⟩)) then (k, 6) else if k.took.length = 40 then (k, 2)
  else ({ k with took := k.took ++ [⟨r.place, r.try_⟩], shares := k.shares + r.n }, 0)
def shareF (me : Int) (k : Kp) (r : Rc) : Kp × Int :=
  if k.delivered = true ∨ k.purged = true then (k, 7) else if r.kind = 4 then giveF me k r else if r.kind = 5 then givenF k r else takeF k r
def elemF (me : Int) (k : Kp) (r : Rc) : Kp × Int :=
  if r.kind = 2 then keepsF k r else if r.kind = 3 then deliverF me k r else if r.kind = 7 then purgeF k else shareF me k r
def sendF (p : Pc) (r : Rc) : Pc × Int :=
  if r.h.frm ≠ p.me then (p, 5) else if r.h.seq ≠ p.seq ∨ r.h.till ≤ p.time then (p, 7) else if r.n < 1 ∨ 64 < r.n then (p, 3) else if p.keep.length = 12 then (p, 2)
  else ({ p with keep := insKp p.keep (Kp.sent r), seq := p.seq + 1 }, 0)
def tickF (p : Pc) (n : Int) : Pc × Int := if n ≤ p.time then (p, 7) else ({ p with time := n, keep := p.keep.filter fun k => decide (n < k.h.till) }, 0)
/-- The bundle of a head: where it is, or would come; what is there. -/
def bundleF (p : Pc) (h : Hd) : (List Kp × Nat × Kp) × Int :=
  if h.till ≤ p.time then ((p.keep, 0, Kp.fresh h), 7)
  else match findAt h.frm h.seq p.keep with
  | some i => if ((p.keep[i]?).getD (Kp.fresh h)).h ≠ h then ((p.keep, 0, Kp.fresh h), 4) else ((p.keep, i, (p.keep[i]?).getD (Kp.fresh h)), 0)
  | none => if h.frm = p.me then ((p.keep, 0, Kp.fresh h), 5) else if p.keep.length = 12 then ((p.keep, 0, Kp.fresh h), 2) else ((insKp p.keep (Kp.fresh h), placeAt p.keep h, Kp.fresh h), 0)
/-- What a record makes of a place; where it is refused the place is as it was. -/
def stepF (p : Pc) (r : Rc) : Pc × Int :=
  if r.kind = 1 then sendF p r else if r.kind = 8 then tickF p r.n
  else if (r.kind = 3 ∨ r.kind = 4 ∨ r.kind = 5) ∧ findAt r.h.frm r.h.seq p.keep = none then (p, 5)
  else if (bundleF p r.h).2 ≠ 0 then (p, (bundleF p r.h).2)
  else if (elemF p.me (bundleF p r.h).1.2.2 r).2 ≠ 0 then (p, (elemF p.me (bundleF p r.h).1.2.2 r).2)
  else ({ p with keep := (bundleF p r.h).1.1.set (bundleF p r.h).1.2.1 (elemF p.me (bundleF p r.h).1.2.2 r).1 }, 0)
/-- What keep.Next answers. -/
def nextF (p : Pc) (r : Rc) : Pc × Int :=
  if placeCheck p ≠ 0 then (Pc.zero, placeCheck p) else if recCheck r ≠ 0 then (Pc.zero, recCheck r)
  else if (stepF p r).2 ≠ 0 then (Pc.zero, (stepF p r).2) else ((stepF p r).1, 0)
def newF (me : Int) : Pc × Int := if placeCheck ⟨me, [], 0, 0⟩ ≠ 0 then (Pc.zero, placeCheck ⟨me, [], 0, 0⟩) else (⟨me, [], 0, 0⟩, 0)
def replayL (p : Pc) : List Rc → Pc × Int
  | [] => (p, 0)
  | r :: l => if (nextF p r).2 ≠ 0 then (Pc.zero, (nextF p r).2) else replayL (nextF p r).1 l
/-- What keep.Replay answers. -/
def replayF (me : Int) (l : List Rc) : Pc × Int :=
  if (newF me).2 ≠ 0 then (Pc.zero, (newF me).2) else if 200 < l.length then (Pc.zero, 2) else replayL (newF me).1 l
end Go.Proofs.Ytojoodmnmhcojaa
