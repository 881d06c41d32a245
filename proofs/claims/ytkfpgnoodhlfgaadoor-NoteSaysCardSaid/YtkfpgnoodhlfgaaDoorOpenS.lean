/- Struct arguments opened to readings. No condition. -/
import Derived.Test.YtkfpgnoodhlfgaaDoorOpenB
import Derived.Test.YtkfpgnoodhlfgaaDoorSt
set_option linter.unusedSimpArgs false
set_option linter.unusedVariables false
namespace Go.Proofs.YtkfpgnoodhlfgaaDoor
open Go.RowKit Go.ChangeShapes Go.WideShapes Go.ChangeAt Go.Deep Go.Joins

/-- Fields, one behind the other. -/
def OpensF {α : Type} (P : Program) (fl : List Field) (off : Nat) (r : ERd α) (μ : α → Nat) : Prop :=
  ∀ (H : Type) (enc : TypeId × Value → H) (w : World) (fuel : Nat) (cs : List Value) (xs : List (DataW H × List MemPlace)), xs.length = fl.length →
    (∀ (i : Nat) (f : Field), fl[i]? = some f → DataW.trod enc P w 0 (fun _ => true) true fuel f.type ((cs.drop f.offset).take (P.cellsOf f.type)) = xs[i]?) →
    (∀ (i : Nat) (f : Field) (x : DataW H × List MemPlace), fl[i]? = some f → xs[i]? = some x → ∀ n ∈ x.1.weights P f.type, n ≤ reachBytes) →
    ∃ y, r w (LT w.heap.size) (fun j => cs[off + j]?) y ∧ μ y ≤ Rows.uptoBulkAll (xs.map (·.1))

theorem field_mono {α : Type} {size off : Nat} {r : ERd α} {w : World} {S : Nat → Prop} {cs : List Value} {y : α} (s : Stable size r) (h : r w S (fun j => ((cs.drop off).take size)[j]?) y) : r w S (fun j => cs[off + j]?) y :=
  s.mono (fun j u hj hu => by
    rw [List.getElem?_take, if_pos hj, List.getElem?_drop] at hu
    exact hu) h
theorem opensF_one {α : Type} {P : Program} {f : Field} {off size : Nat} {r : ERd α} {μ : α → Nat} (s : Stable size r) (ho : f.offset = off) (hc : P.cellsOf f.type = size) (h : OpensB P f.type size r μ) : OpensF P [f] off r μ := by
  intro H enc w fuel cs xs hl hx hw
  match xs, hl with
  | [x], _ =>
    have h0 := hx 0 f rfl
    rw [ho, hc] at h0
    obtain ⟨_, y, hy, hb⟩ := h H enc w fuel _ x h0 (hw 0 f x rfl rfl)
    refine ⟨y, field_mono s hy, ?_⟩
    simp only [List.map_cons, List.map_nil, Rows.uptoBulkAll]
    omega
theorem opensF_cons {α β : Type} {P : Program} {f : Field} {fl : List Field} {off size : Nat} {r : ERd α} {q : ERd β} {μ : α → Nat} {ν : β → Nat} (s : Stable size r) (ho : f.offset = off) (hc : P.cellsOf f.type = size) (h : OpensB P f.type size r μ) (hf : OpensF P fl (off + size) q ν) :
    OpensF P (f :: fl) off (ePair size r q) (fun p => μ p.1 + ν p.2) := by
  intro H enc w fuel cs xs hl hx hw
  match xs, hl with
  | x :: xs, hl =>
    have h0 := hx 0 f rfl
    rw [ho, hc] at h0
    obtain ⟨_, y, hy, hb⟩ := h H enc w fuel _ x h0 (hw 0 f x rfl rfl)
    obtain ⟨z, hz, hb2⟩ := hf H enc w fuel cs xs (by simpa using hl) (fun i f' hf' => by simpa using hx (i + 1) f' (by simpa using hf')) (fun i f' x' hf' hx' => hw (i + 1) f' x' (by simpa using hf') (by simpa using hx'))
    refine ⟨(y, z), ⟨field_mono s hy, ?_⟩, ?_⟩
    · have e : (fun j => cs[off + (size + j)]?) = fun j => cs[off + size + j]? := funext fun j => by rw [Nat.add_assoc]
      rw [e]; exact hz
    · simp only [List.map_cons, Rows.uptoBulkAll]
      omega
theorem opensB_struct {α β : Type} {P : Program} {T : TypeId} {fs : Array Field} {size : Nat} {r : ERd α} {μ : α → Nat} (g : β → α) (hg : ∀ a, ∃ b, g b = a) (hT : P.underlying T = some (.struct fs)) (hc : P.cellsOf T = size) (h : OpensF P fs.toList 0 r μ) : OpensB P T size (eMap g r) (fun b => μ (g b)) := by
  intro H enc w fuel cs x ht hw
  obtain ⟨xs, n, _, hx, hlen, hxl, hf⟩ := DataW.trod_struct hT ht
  subst hx
  refine ⟨hlen.trans hc, ?_⟩
  obtain ⟨y, hy, hb⟩ := h H enc w n cs xs (by simpa using hxl) (fun i f hi => hf i f (by simpa using hi)) (fun i f x hi hxi n hn => hw n (by
    simp only [DataW.weights, hT]
    exact DataW.weights_mem_each (j := i) (t := f.type) (d := x.1) (by simp [List.getElem?_map] at hi ⊢; exact ⟨f, hi, rfl⟩) (by simp [List.getElem?_map, hxi]) n hn))
  obtain ⟨b, rfl⟩ := hg y
  refine ⟨b, ?_, ?_⟩
  · have e : (fun j => cs[0 + j]?) = fun j => cs[j]? := funext fun j => by rw [Nat.zero_add]
    rw [e] at hy
    exact hy
  · simp only [Rows.uptoBulk]
    omega
theorem OpensB.plain {α : Type} {P : Program} {T : TypeId} {size : Nat} {r : ERd α} {μ : α → Nat} (h : OpensB P T size r μ) : Opens P T size r := by
  intro H enc w fuel cs x ht hw
  obtain ⟨h1, y, hy, _⟩ := h H enc w fuel cs x ht hw
  exact ⟨h1, y, hy⟩
theorem OpensB.as {α : Type} {P : Program} {T : TypeId} {size : Nat} {r : ERd α} {μ ν : α → Nat} (h : OpensB P T size r μ) (e : ∀ a, ν a ≤ μ a) : OpensB P T size r ν := by
  intro H enc w fuel cs x ht hw
  obtain ⟨h1, y, hy, hb⟩ := h H enc w fuel cs x ht hw
  exact ⟨h1, y, hy, Nat.le_trans (e y) hb⟩

theorem bInt : OpensB Tryd.prog 3 1 eInt (fun _ => 1) := (opens_int Tryd.underlying3).one
theorem bBool : OpensB Tryd.prog 4 1 eBool (fun _ => 1) := (opens_bool Tryd.underlying4).one
theorem bBlock : OpensB Tryd.prog 27 1 eBlock (fun l => (l.map fun _ => 1).sum) := opensB_slice sByte (by decide) Tryd.underlying27 (opens_byte Tryd.underlying5).one (by kernel_rfl) (by kernel_rfl)
theorem bPlan : OpensB Tryd.prog 23 2 (eMap (fun p : Int × Int => p) (ePair 1 eInt eInt)) (fun _ => 1) :=
  (opensB_struct (fun p : Int × Int => p) (fun a => ⟨a, rfl⟩) Tryd.underlying23 (by kernel_rfl) (opensF_cons sInt rfl (by kernel_rfl) bInt (opensF_one sInt rfl (by kernel_rfl) bInt))).as fun _ => by simp
def Hd.tup5 (h : Hd) : Int × Int × Int × Int × (Int × Int) := (h.frm, h.seq, h.to, h.till, (h.bytes, h.block))
theorem bHd : OpensB Tryd.prog 25 6 eHd (fun _ => 1) := by
  have h := opensB_struct (size := 6) Hd.tup5 (fun ⟨a, b, c, d, e, f⟩ => ⟨⟨a, b, c, d, e, f⟩, rfl⟩) Tryd.underlying25 (by kernel_rfl) (opensF_cons sInt rfl (by kernel_rfl) bInt (opensF_cons sInt rfl (by kernel_rfl) bInt (opensF_cons sInt rfl (by kernel_rfl) bInt (opensF_cons sInt rfl (by kernel_rfl) bInt (opensF_one (.map _ (sInt.pair sInt)) rfl (by kernel_rfl) bPlan)))))
  exact h.as fun _ => by simp
theorem bSm : OpensB Tryd.prog 29 2 eSm (fun s => s.data.length) :=
  (opensB_struct Sm.tup (fun ⟨a, b⟩ => ⟨⟨a, b⟩, rfl⟩) Tryd.underlying29 (by kernel_rfl) (opensF_cons sInt rfl (by kernel_rfl) bInt (opensF_one wBlock rfl (by kernel_rfl) bBlock))).as fun s => by simp [sum_ones, Sm.tup]
end Go.Proofs.YtkfpgnoodhlfgaaDoor
