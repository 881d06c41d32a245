/- Mail, in plain words. No condition; no program in sight. -/
import Derived.Test.YtbincgbgeccccaaGreatDoorSt
import Derived.Test.YtbincgbgeccccaaGreatDoorCode
set_option linter.unusedSimpArgs false
set_option linter.unusedVariables false
namespace Go.Proofs.YtbincgbgeccccaaGreatDoor

def hdCheck (h : Hd) : Int := if h.frm < 0 ∨ 4 ≤ h.frm ∨ h.to < 0 ∨ 4 ≤ h.to ∨ h.seq < 0 ∨ 50 ≤ h.seq ∨ h.till < 1 ∨ 1000000 < h.till then 3 else if h.frm = h.to then 5 else cutCheck h.bytes h.block
def fmCheck (f : Fm) : Int :=
  if f.kind < 1 ∨ 4 < f.kind then 4 else if hdCheck f.h ≠ 0 then hdCheck f.h
  else if (f.kind = 2 ∨ f.kind = 3) ∧ (f.n < 1 ∨ 64 < f.n ∨ f.try_ < 1 ∨ 9999 < f.try_) then 3
  else if ¬ (f.kind = 2 ∨ f.kind = 3) ∧ (f.n ≠ 0 ∨ f.try_ ≠ 0) then 4
  else if f.kind = 1 then codeCheck f.h.bytes f.h.block f.s.id f.s.data.length
  else if f.s.id ≠ 0 ∨ 0 < f.s.data.length then 4 else 0
def mlCheck1 (m : Ml) : Int := if m.frm < 0 ∨ 4 ≤ m.frm ∨ m.to < 0 ∨ 4 ≤ m.to then 3 else fmCheck m.f
def mlCheckL : List Ml → Int
  | [] => 0
  | m :: l => if mlCheck1 m ≠ 0 then mlCheck1 m else mlCheckL l
def mlCheck (l : List Ml) : Int := if 40 < l.length then 2 else mlCheckL l
end Go.Proofs.YtbincgbgeccccaaGreatDoor
