/- Records as arguments, opened to readings. No condition. -/
import Derived.Test.YtkfpgnoodhlfgaaDoorOpenS
import Derived.Test.YtkfpgnoodhlfgaaDoorNoteP
set_option maxRecDepth 100000
set_option linter.unusedSimpArgs false
set_option linter.unusedVariables false
namespace Go.Proofs.YtkfpgnoodhlfgaaDoor
open Go.RowKit Go.ChangeShapes Go.WideShapes Go.ChangeAt Go.Deep Go.Joins

theorem OpensB.free {α : Type} {P : Program} {T : TypeId} {size : Nat} {r : ERd α} {μ : α → Nat} (h : OpensB P T size r μ) : OpensB P T size r (fun _ => 0) := h.as fun _ => Nat.zero_le _
theorem bBytes : OpensB Tryd.prog 26 1 eBlock (fun _ => 0) := (opensB_slice sByte (by decide) Tryd.underlying26 (opens_byte Tryd.underlying5).one (by kernel_rfl) (by kernel_rfl)).free
theorem bRc : OpensB Tryd.prog 31 13 eRc (fun _ => 0) :=
  (opensB_struct Rc.tup (fun ⟨a, b, c, d, e, f, g⟩ => ⟨⟨a, b, c, d, e, f, g⟩, rfl⟩) Tryd.underlying31 (by kernel_rfl) (opensF_cons sInt rfl (by kernel_rfl) bInt (opensF_cons sInt rfl (by kernel_rfl) bInt (opensF_cons sInt rfl (by kernel_rfl) bInt (opensF_cons sInt rfl (by kernel_rfl) bInt (opensF_cons sHd rfl (by kernel_rfl) bHd (opensF_cons sSm rfl (by kernel_rfl) bSm (opensF_one wBlock rfl (by kernel_rfl) bBytes)))))))).free
/-- A record, by value. -/
theorem openRec {H : Type} {enc : TypeId × Value → H} {W : World} {r : Reach} {base : Nat} {v : Value} {d : DataW H} {p : List MemPlace} (hv : Value.okWide Tryd.prog W r base 31 v) (h : DataW.Trod enc Tryd.prog W 0 (fun _ => true) true 31 v d p) (hs : ∀ n ∈ d.weights Tryd.prog 31, n ≤ reachBytes) :
    ∃ (m : Rc) (A : Option Addr) (n c : Nat) (A2 : Option Addr) (n2 c2 : Nat), v = .agg #[.int .i64 m.kind, .int .i64 m.place, .int .i64 m.n, .int .i64 m.try_, .int .i64 m.h.frm, .int .i64 m.h.seq, .int .i64 m.h.to, .int .i64 m.h.till, .int .i64 m.h.bytes, .int .i64 m.h.block, .int .i64 m.s.id, .slice A n c, .slice A2 n2 c2] ∧ m.wf ∧ Byt W (LT W.heap.size) A n c m.s.data ∧ Byt W (LT W.heap.size) A2 n2 c2 m.cargo := by
  obtain ⟨cs, rfl, hsz⟩ := okWide_struct Tryd.underlying31 hv
  obtain ⟨fuel, hf⟩ := h
  obtain ⟨_, m, hm⟩ := bRc.plain _ _ _ _ _ _ hf hs
  obtain ⟨l⟩ := cs
  have hl : l.length = 13 := hsz.trans (by kernel_rfl)
  obtain ⟨A, n, c, A2, n2, c2, hc, hw, hb, hb2⟩ := eRc_iff.1 hm
  match l, hl with
  | [c0, c1, c2, c3, c4, c5, c6, c7, c8, c9, c10, c11, c12], _ =>
    simp [Value.cells] at hc
    obtain ⟨rfl, rfl, rfl, rfl, rfl, rfl, rfl, rfl, rfl, rfl, rfl, rfl, rfl⟩ := hc
    exact ⟨m, A, n, c, A2, n2, _, rfl, hw, hb, hb2⟩
theorem openRecs : Opens Tryd.prog 43 1 (eSl 13 136 eRc) := (opensB_slice sRc (by decide) Tryd.underlying43 bRc (by kernel_rfl) (by kernel_rfl)).plain
end Go.Proofs.YtkfpgnoodhlfgaaDoor
