/- Records of a log, in plain words. No condition; no program in sight. -/
import Derived.Test.YtmiaplgfbphfmaaGreatDoorMPB
import Derived.Test.YtmiaplgfbphfmaaGreatDoorMPP
set_option linter.unusedSimpArgs false
set_option linter.unusedVariables false
namespace Go.Proofs.YtmiaplgfbphfmaaGreatDoor

def hdCheck (h : Hd) : Int := if h.frm < 0 ∨ 4 ≤ h.frm ∨ h.to < 0 ∨ 4 ≤ h.to ∨ h.seq < 0 ∨ 50 ≤ h.seq ∨ h.till < 1 ∨ 1000000 < h.till then 3 else if h.frm = h.to then 5 else cutCheck h.bytes h.block
end Go.Proofs.YtmiaplgfbphfmaaGreatDoor
namespace Go.Proofs.YtmiaplgfbphfmaaGreatDoor

/-- Records. -/
structure Rc where
  kind : Int
  place : Int
  n : Int
  try_ : Int
  h : Hd
  s : Sm
  cargo : List UInt8
deriving DecidableEq
def Hd.zero : Hd := ⟨0, 0, 0, 0, 0, 0⟩
def Sm.zero : Sm := ⟨0, []⟩
def Rc.zero : Rc := ⟨0, 0, 0, 0, Hd.zero, Sm.zero, []⟩
def Rc.tup (r : Rc) : Int × Int × Int × Int × Hd × Sm × List UInt8 := (r.kind, r.place, r.n, r.try_, r.h, r.s, r.cargo)
def eRc : ERd Rc := eMap Rc.tup (ePair 1 eInt (ePair 1 eInt (ePair 1 eInt (ePair 1 eInt (ePair 6 eHd (ePair 2 eSm eBlock))))))
theorem sRc : Stable 13 eRc := .map _ (sInt.pair (sInt.pair (sInt.pair (sInt.pair (sHd.pair (sSm.pair wBlock))))))
theorem fRc : Full 13 eRc := Full.map _ (fInt.pair (fInt.pair (fInt.pair (fInt.pair (fHd.pair (fSm.pair fSl))))))
def Rc.wf (r : Rc) : Prop := wfI r.kind ∧ wfI r.place ∧ wfI r.n ∧ wfI r.try_ ∧ r.h.wf ∧ wfI r.s.id
theorem eRc_iff {w : World} {S : Nat → Prop} {f : Nat → Option Value} {x : Rc} : eRc w S f x ↔ ∃ A n c A2 n2 c2, (f 0 = some (.int .i64 x.kind) ∧ f 1 = some (.int .i64 x.place) ∧ f 2 = some (.int .i64 x.n) ∧ f 3 = some (.int .i64 x.try_) ∧ f 4 = some (.int .i64 x.h.frm) ∧ f 5 = some (.int .i64 x.h.seq) ∧ f 6 = some (.int .i64 x.h.to) ∧ f 7 = some (.int .i64 x.h.till) ∧ f 8 = some (.int .i64 x.h.bytes) ∧ f 9 = some (.int .i64 x.h.block) ∧ f 10 = some (.int .i64 x.s.id) ∧ f 11 = some (.slice A n c) ∧ f 12 = some (.slice A2 n2 c2)) ∧ x.wf ∧ Byt w S A n c x.s.data ∧ Byt w S A2 n2 c2 x.cargo := by
  unfold eRc eMap Rc.tup ePair
  simp only [eHd_iff, eSm_iff, eInt, Rc.wf, Nat.add_zero, Nat.reduceAdd]
  constructor
  · rintro ⟨⟨a1, b1⟩, ⟨a2, b2⟩, ⟨a3, b3⟩, ⟨a4, b4⟩, ⟨⟨h1, h2, h3, h4, h5, h6⟩, b5⟩, ⟨A, n, c, ⟨s1, s2⟩, b6, b7⟩, A2, n2, c2, t1, t2, t3⟩
    exact ⟨A, n, c, A2, n2, c2, ⟨a1, a2, a3, a4, h1, h2, h3, h4, h5, h6, s1, s2, t1⟩, ⟨b1, b2, b3, b4, b5, b6⟩, b7, t2, t3⟩
  · rintro ⟨A, n, c, A2, n2, c2, ⟨a1, a2, a3, a4, h1, h2, h3, h4, h5, h6, s1, s2, t1⟩, ⟨b1, b2, b3, b4, b5, b6⟩, b7, t2, t3⟩
    exact ⟨⟨a1, b1⟩, ⟨a2, b2⟩, ⟨a3, b3⟩, ⟨a4, b4⟩, ⟨⟨h1, h2, h3, h4, h5, h6⟩, b5⟩, ⟨A, n, c, ⟨s1, s2⟩, b6, b7⟩, A2, n2, c2, t1, t2, t3⟩

/-- What a record has use for. -/
def usP (k : Int) : Bool := decide (k = 4) || decide (k = 6)
def usN (k : Int) : Bool := decide (k = 1) || decide (k = 4) || decide (k = 6) || decide (k = 8)
def usT (k : Int) : Bool := decide (k = 4) || decide (k = 5) || decide (k = 6)
def usH (k : Int) : Bool := !decide (k = 8)
def usS (k : Int) : Bool := decide (k = 2)
def usC (k : Int) : Bool := decide (k = 1) || decide (k = 3)
/-- What note.Check answers. -/
def recCheck (r : Rc) : Int :=
  if r.kind < 1 ∨ 8 < r.kind then 4
  else if (usP r.kind = false ∧ r.place ≠ 0) ∨ (usN r.kind = false ∧ r.n ≠ 0) ∨ (usT r.kind = false ∧ r.try_ ≠ 0) ∨ (usH r.kind = false ∧ r.h ≠ Hd.zero) ∨ (usS r.kind = false ∧ (r.s.id ≠ 0 ∨ 0 < r.s.data.length)) ∨ (usC r.kind = false ∧ 0 < r.cargo.length) then 4
  else if r.place < 0 ∨ 4 ≤ r.place ∨ r.try_ < 0 ∨ 9999 < r.try_ ∨ r.n < 0 ∨ 1000000 < r.n then 3
  else if usH r.kind = true ∧ hdCheck r.h ≠ 0 then hdCheck r.h
  else if usS r.kind = true then codeCheck r.h.bytes r.h.block r.s.id r.s.data.length
  else if usC r.kind = true ∧ (r.cargo.length : Int) ≠ r.h.bytes then 4 else 0

/-- Shares that came. -/
structure Tk where
  place : Int
  try_ : Int
deriving DecidableEq
def Tk.tup (t : Tk) : Int × Int := (t.place, t.try_)
def eTk : ERd Tk := eMap Tk.tup (ePair 1 eInt eInt)
theorem sTk : Stable 2 eTk := .map _ (sInt.pair sInt)
theorem fTk : Full 2 eTk := Full.map _ (fInt.pair fInt)
/-- A bundle at a place. -/
structure Kp where
  h : Hd
  own : Bool
  cargo : List UInt8
  syms : List Sm
  shares : Int
  giving : Int
  towards : Int
  try_ : Int
  took : List Tk
  delivered : Bool
  purged : Bool
deriving DecidableEq
abbrev eSyms : ERd (List Sm) := eSl 2 32 eSm
abbrev eToks : ERd (List Tk) := eSl 2 16 eTk
def Kp.tup (k : Kp) : Hd × Bool × List UInt8 × List Sm × Int × Int × Int × Int × List Tk × Bool × Bool := (k.h, k.own, k.cargo, k.syms, k.shares, k.giving, k.towards, k.try_, k.took, k.delivered, k.purged)
def eKp : ERd Kp := eMap Kp.tup (ePair 6 eHd (ePair 1 eBool (ePair 1 eBlock (ePair 1 eSyms (ePair 1 eInt (ePair 1 eInt (ePair 1 eInt (ePair 1 eInt (ePair 1 eToks (ePair 1 eBool eBool))))))))))
theorem sKp : Stable 16 eKp := .map _ (sHd.pair (sBool.pair (wBlock.pair ((sSl sSm).pair (sInt.pair (sInt.pair (sInt.pair (sInt.pair ((sSl sTk).pair (sBool.pair sBool))))))))))
theorem fKp : Full 16 eKp := Full.map _ (fHd.pair (fBool.pair (fSl.pair (fSl.pair (fInt.pair (fInt.pair (fInt.pair (fInt.pair (fSl.pair (fBool.pair fBool))))))))))
def Kp.wf (k : Kp) : Prop := k.h.wf ∧ wfI k.shares ∧ wfI k.giving ∧ wfI k.towards ∧ wfI k.try_
/-- Symbols, and what was taken, read, of a right length. -/
def Sys_ (w : World) (S : Nat → Prop) (A : Option Addr) (n c : Nat) (l : List Sm) : Prop := (n * 32 ≤ lim ∧ n ≤ c ∧ c ≤ maxLen) ∧ Sl 2 eSm w S A n l
def Tks (w : World) (S : Nat → Prop) (A : Option Addr) (n c : Nat) (l : List Tk) : Prop := (n * 16 ≤ lim ∧ n ≤ c ∧ c ≤ maxLen) ∧ Sl 2 eTk w S A n l
theorem eKp_iff {w : World} {S : Nat → Prop} {f : Nat → Option Value} {x : Kp} : eKp w S f x ↔ ∃ A n c A2 n2 c2 A3 n3 c3, (f 0 = some (.int .i64 x.h.frm) ∧ f 1 = some (.int .i64 x.h.seq) ∧ f 2 = some (.int .i64 x.h.to) ∧ f 3 = some (.int .i64 x.h.till) ∧ f 4 = some (.int .i64 x.h.bytes) ∧ f 5 = some (.int .i64 x.h.block) ∧ f 6 = some (.bool x.own) ∧ f 7 = some (.slice A n c) ∧ f 8 = some (.slice A2 n2 c2) ∧ f 9 = some (.int .i64 x.shares) ∧ f 10 = some (.int .i64 x.giving) ∧ f 11 = some (.int .i64 x.towards) ∧ f 12 = some (.int .i64 x.try_) ∧ f 13 = some (.slice A3 n3 c3) ∧ f 14 = some (.bool x.delivered) ∧ f 15 = some (.bool x.purged)) ∧ x.wf ∧ Byt w S A n c x.cargo ∧ Sys_ w S A2 n2 c2 x.syms ∧ Tks w S A3 n3 c3 x.took := by
  unfold eKp eMap Kp.tup ePair
  simp only [eHd_iff, eInt, eBool, Kp.wf, Nat.add_zero, Nat.reduceAdd]
  constructor
  · rintro ⟨⟨⟨h1, h2, h3, h4, h5, h6⟩, b1⟩, a1, ⟨A, n, c, s1, s2, s3⟩, ⟨A2, n2, c2, t1, t2, t3⟩, ⟨a2, b2⟩, ⟨a3, b3⟩, ⟨a4, b4⟩, ⟨a5, b5⟩, ⟨A3, n3, c3, u1, u2, u3⟩, a6, a7⟩
    exact ⟨A, n, c, A2, n2, c2, A3, n3, c3, ⟨h1, h2, h3, h4, h5, h6, a1, s1, t1, a2, a3, a4, a5, u1, a6, a7⟩, ⟨b1, b2, b3, b4, b5⟩, ⟨s2, s3⟩, ⟨t2, t3⟩, u2, u3⟩
  · rintro ⟨A, n, c, A2, n2, c2, A3, n3, c3, ⟨h1, h2, h3, h4, h5, h6, a1, s1, t1, a2, a3, a4, a5, u1, a6, a7⟩, ⟨b1, b2, b3, b4, b5⟩, ⟨s2, s3⟩, ⟨t2, t3⟩, u2, u3⟩
    exact ⟨⟨⟨h1, h2, h3, h4, h5, h6⟩, b1⟩, a1, ⟨A, n, c, s1, s2, s3⟩, ⟨A2, n2, c2, t1, t2, t3⟩, ⟨a2, b2⟩, ⟨a3, b3⟩, ⟨a4, b4⟩, ⟨a5, b5⟩, ⟨A3, n3, c3, u1, u2, u3⟩, a6, a7⟩
theorem eTk_iff {w : World} {S : Nat → Prop} {f : Nat → Option Value} {x : Tk} : eTk w S f x ↔ (f 0 = some (.int .i64 x.place) ∧ f 1 = some (.int .i64 x.try_)) ∧ wfI x.place ∧ wfI x.try_ := by
  unfold eTk eMap Tk.tup ePair
  simp only [eInt, Nat.add_zero]
  constructor
  · rintro ⟨⟨a1, b1⟩, a2, b2⟩; exact ⟨⟨a1, a2⟩, b1, b2⟩
  · rintro ⟨⟨a1, a2⟩, b1, b2⟩; exact ⟨⟨a1, b1⟩, a2, b2⟩

/-- A place. -/
structure Pc where
  me : Int
  keep : List Kp
  time : Int
  seq : Int
deriving DecidableEq
def Pc.zero : Pc := ⟨0, [], 0, 0⟩
/-- What a record that is right says. -/
structure RcOk (r : Rc) : Prop where
  kind : 1 ≤ r.kind ∧ r.kind ≤ 8
  place : 0 ≤ r.place ∧ r.place < 4
  try_ : 0 ≤ r.try_ ∧ r.try_ ≤ 9999
  n : 0 ≤ r.n ∧ r.n ≤ 1000000
  head : r.kind ≠ 8 → hdCheck r.h = 0
  tick : r.kind = 8 → r.h = Hd.zero
  sym : r.kind = 2 → codeCheck r.h.bytes r.h.block r.s.id r.s.data.length = 0
  cargo : (r.kind = 1 ∨ r.kind = 3) → (r.cargo.length : Int) = r.h.bytes
theorem recCheck_ok {r : Rc} (h : recCheck r = 0) : RcOk r := by
  unfold recCheck at h
  split at h
  · cases h
  split at h
  · cases h
  split at h
  · cases h
  split at h
  · rename_i h1; exact absurd h h1.2
  rename_i h1 h2 h3 h4
  refine ⟨by omega, by omega, by omega, by omega, fun e => ?_, fun e => ?_, fun e => ?_, fun e => ?_⟩
  · have : usH r.kind = true := by simp [usH, e]
    simp only [this, true_and, ne_eq, Decidable.not_not] at h4; exact h4
  · have : usH r.kind = false := by simp [usH, e]
    simp only [this, true_and, not_or, ne_eq, Decidable.not_not] at h2; exact h2.2.2.2.1
  · have : usS r.kind = true := by simp [usS, e]
    rw [if_pos this] at h; exact h
  · have h5 : usS r.kind = false := by rcases e with e | e <;> simp [usS, e]
    have h6 : usC r.kind = true := by rcases e with e | e <;> simp [usC, e]
    rw [if_neg (by simp [h5])] at h
    split at h
    · cases h
    · rename_i h7
      simp only [h6, true_and, ne_eq, Decidable.not_not] at h7; exact h7
end Go.Proofs.YtmiaplgfbphfmaaGreatDoor
