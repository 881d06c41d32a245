/- Struct arguments opened to readings. No condition. -/
import Derived.Test.YtahkpbenebmmdaaOpenB
import Derived.Test.YtahkpbenebmmdaaSt
set_option linter.unusedSimpArgs false
set_option linter.unusedVariables false
namespace Go.Proofs.Ytahkpbenebmmdaa
open Go.RowKit Go.ChangeShapes Go.WideShapes Go.ChangeAt Go.Deep Go.Joins

/-- Fields, one behind the other. -/
def OpensF {α : Type} (P : Program) (fl : List Field) (off : Nat) (r : ERd α) (μ : α → Nat) : Prop :=
  ∀ (H : Type) (enc : TypeId × Value → H) (w : World) (fuel : Nat) (cs : List Value) (xs : List (DataW H × List MemPlace)), xs.length = fl.length →
    (∀ (i : Nat) (f : Field), fl[i]? = some f → DataW.trod enc P w 0 (fun _ => true) true fuel f.type ((cs.drop f.offset).take (P.cellsOf f.type)) = xs[i]?) →
    (∀ (i : Nat) (f : Field) (x : DataW H × List MemPlace), fl[i]? = some f → xs[i]? = some x → ∀ n ∈ x.1.weights P f.type, n ≤ reachBytes) →
    ∃ y, r w (LT w.heap.size) (fun j => cs[off + j]?) y ∧ μ y ≤ Rows.uptoBulkAll (xs.map (·.1))

theorem field_mono {α : Type} {size off : Nat} {r : ERd α} {w : World} {S : Nat → Prop} {cs : List Value} {y : α} (s : Stable size r) (h : r w S (fun j => ((cs.drop off).take size)[j]?) y) : r w S (fun j => cs[off + j]?) y :=
  s.mono (fun j u hj hu => by
    rw [List.getElem?_take, if_pos hj, List.getElem?_drop] at hu
    exact hu) h
theorem opensF_one {α : Type} {P : Program} {f : Field} {off size : Nat} {r : ERd α} {μ : α → Nat} (s : Stable size r) (ho : f.offset = off) (hc : P.cellsOf f.type = size) (h : OpensB P f.type size r μ) : OpensF P [f] off r μ := by
  intro H enc w fuel cs xs hl hx hw
  match xs, hl with
  | [x], _ =>
    have h0 := hx 0 f rfl
    rw [ho, hc] at h0
    obtain ⟨_, y, hy, hb⟩ := h H enc w fuel _ x h0 (hw 0 f x rfl rfl)
    refine ⟨y, field_mono s hy, ?_⟩
    simp only [List.map_cons, List.map_nil, Rows.uptoBulkAll]
    omega
theorem opensF_cons {α β : Type} {P : Program} {f : Field} {fl : List Field} {off size : Nat} {r : ERd α} {q : ERd β} {μ : α → Nat} {ν : β → Nat} (s : Stable size r) (ho : f.offset = off) (hc : P.cellsOf f.type = size) (h : OpensB P f.type size r μ) (hf : OpensF P fl (off + size) q ν) :
    OpensF P (f :: fl) off (ePair size r q) (fun p => μ p.1 + ν p.2) := by
  intro H enc w fuel cs xs hl hx hw
  match xs, hl with
  | x :: xs, hl =>
    have h0 := hx 0 f rfl
    rw [ho, hc] at h0
    obtain ⟨_, y, hy, hb⟩ := h H enc w fuel _ x h0 (hw 0 f x rfl rfl)
    obtain ⟨z, hz, hb2⟩ := hf H enc w fuel cs xs (by simpa using hl) (fun i f' hf' => by simpa using hx (i + 1) f' (by simpa using hf')) (fun i f' x' hf' hx' => hw (i + 1) f' x' (by simpa using hf') (by simpa using hx'))
    refine ⟨(y, z), ⟨field_mono s hy, ?_⟩, ?_⟩
    · have e : (fun j => cs[off + (size + j)]?) = fun j => cs[off + size + j]? := funext fun j => by rw [Nat.add_assoc]
      rw [e]; exact hz
    · simp only [List.map_cons, Rows.uptoBulkAll]
      omega
theorem opensB_struct {α β : Type} {P : Program} {T : TypeId} {fs : Array Field} {size : Nat} {r : ERd α} {μ : α → Nat} (g : β → α) (hg : ∀ a, ∃ b, g b = a) (hT : P.underlying T = some (.struct fs)) (hc : P.cellsOf T = size) (h : OpensF P fs.toList 0 r μ) : OpensB P T size (eMap g r) (fun b => μ (g b)) := by
  intro H enc w fuel cs x ht hw
  obtain ⟨xs, n, _, hx, hlen, hxl, hf⟩ := DataW.trod_struct hT ht
  subst hx
  refine ⟨hlen.trans hc, ?_⟩
  obtain ⟨y, hy, hb⟩ := h H enc w n cs xs (by simpa using hxl) (fun i f hi => hf i f (by simpa using hi)) (fun i f x hi hxi n hn => hw n (by
    simp only [DataW.weights, hT]
    exact DataW.weights_mem_each (j := i) (t := f.type) (d := x.1) (by simp [List.getElem?_map] at hi ⊢; exact ⟨f, hi, rfl⟩) (by simp [List.getElem?_map, hxi]) n hn))
  obtain ⟨b, rfl⟩ := hg y
  refine ⟨b, ?_, ?_⟩
  · have e : (fun j => cs[0 + j]?) = fun j => cs[j]? := funext fun j => by rw [Nat.zero_add]
    rw [e] at hy
    exact hy
  · simp only [Rows.uptoBulk]
    omega
theorem OpensB.plain {α : Type} {P : Program} {T : TypeId} {size : Nat} {r : ERd α} {μ : α → Nat} (h : OpensB P T size r μ) : Opens P T size r := by
  intro H enc w fuel cs x ht hw
  obtain ⟨h1, y, hy, _⟩ := h H enc w fuel cs x ht hw
  exact ⟨h1, y, hy⟩
theorem OpensB.as {α : Type} {P : Program} {T : TypeId} {size : Nat} {r : ERd α} {μ ν : α → Nat} (h : OpensB P T size r μ) (e : ∀ a, ν a ≤ μ a) : OpensB P T size r ν := by
  intro H enc w fuel cs x ht hw
  obtain ⟨h1, y, hy, hb⟩ := h H enc w fuel cs x ht hw
  exact ⟨h1, y, hy, Nat.le_trans (e y) hb⟩

theorem bInt : OpensB Try.prog 3 1 eInt (fun _ => 1) := (opens_int Try.underlying3).one
theorem bBool : OpensB Try.prog 4 1 eBool (fun _ => 1) := (opens_bool Try.underlying4).one
theorem bBlock : OpensB Try.prog 29 1 eBlock (fun l => (l.map fun _ => 1).sum) := opensB_slice sByte (by decide) Try.underlying29 (opens_byte Try.underlying5).one (by kernel_rfl) (by kernel_rfl)
theorem bPlan : OpensB Try.prog 50 2 (eMap (fun p : Int × Int => p) (ePair 1 eInt eInt)) (fun _ => 1) :=
  (opensB_struct (fun p : Int × Int => p) (fun a => ⟨a, rfl⟩) Try.underlying50 (by kernel_rfl) (opensF_cons sInt rfl (by kernel_rfl) bInt (opensF_one sInt rfl (by kernel_rfl) bInt))).as fun _ => by simp
def Hd.tup5 (h : Hd) : Int × Int × Int × Int × (Int × Int) := (h.frm, h.seq, h.to, h.till, (h.bytes, h.block))
theorem bHd : OpensB Try.prog 69 6 eHd (fun _ => 1) := by
  have h := opensB_struct (size := 6) Hd.tup5 (fun ⟨a, b, c, d, e, f⟩ => ⟨⟨a, b, c, d, e, f⟩, rfl⟩) Try.underlying69 (by kernel_rfl) (opensF_cons sInt rfl (by kernel_rfl) bInt (opensF_cons sInt rfl (by kernel_rfl) bInt (opensF_cons sInt rfl (by kernel_rfl) bInt (opensF_cons sInt rfl (by kernel_rfl) bInt (opensF_one (.map _ (sInt.pair sInt)) rfl (by kernel_rfl) bPlan)))))
  exact h.as fun _ => by simp
theorem bSm : OpensB Try.prog 61 2 eSm (fun s => s.data.length) :=
  (opensB_struct Sm.tup (fun ⟨a, b⟩ => ⟨⟨a, b⟩, rfl⟩) Try.underlying61 (by kernel_rfl) (opensF_cons sInt rfl (by kernel_rfl) bInt (opensF_one wBlock rfl (by kernel_rfl) bBlock))).as fun s => by simp [sum_ones, Sm.tup]
theorem bFm : OpensB Try.prog 71 11 eFm (fun f => f.s.data.length) :=
  (opensB_struct Fm.tup (fun ⟨a, b, c, d, e⟩ => ⟨⟨a, b, c, d, e⟩, rfl⟩) Try.underlying71 (by kernel_rfl) (opensF_cons sInt rfl (by kernel_rfl) bInt (opensF_cons sHd rfl (by kernel_rfl) bHd (opensF_cons sSm rfl (by kernel_rfl) bSm (opensF_cons sInt rfl (by kernel_rfl) bInt (opensF_one sInt rfl (by kernel_rfl) bInt)))))).as fun s => by simp [Fm.tup]; omega
theorem bMl : OpensB Try.prog 73 13 eMl (fun m => m.f.s.data.length) :=
  (opensB_struct Ml.tup (fun ⟨a, b, c⟩ => ⟨⟨a, b, c⟩, rfl⟩) Try.underlying73 (by kernel_rfl) (opensF_cons sInt rfl (by kernel_rfl) bInt (opensF_cons sInt rfl (by kernel_rfl) bInt (opensF_one sFm rfl (by kernel_rfl) bFm)))).as fun s => by simp [Ml.tup]; omega
theorem openMails : Opens Try.prog 67 1 (eSl 13 120 eMl) := (opensB_slice sMl (by decide) Try.underlying67 bMl (by kernel_rfl) (by kernel_rfl)).plain
/-- Mail, by value. -/
theorem openMail {H : Type} {enc : TypeId × Value → H} {W : World} {r : Reach} {base : Nat} {v : Value} {d : DataW H} {p : List MemPlace} (hv : Value.okWide Try.prog W r base 73 v) (h : DataW.Trod enc Try.prog W 0 (fun _ => true) true 73 v d p) (hs : ∀ n ∈ d.weights Try.prog 73, n ≤ reachBytes) :
    ∃ (m : Ml) (A : Option Addr) (n c : Nat), v = .agg #[.int .i64 m.frm, .int .i64 m.to, .int .i64 m.f.kind, .int .i64 m.f.h.frm, .int .i64 m.f.h.seq, .int .i64 m.f.h.to, .int .i64 m.f.h.till, .int .i64 m.f.h.bytes, .int .i64 m.f.h.block, .int .i64 m.f.s.id, .slice A n c, .int .i64 m.f.n, .int .i64 m.f.try_] ∧ m.wf ∧ Byt W (LT W.heap.size) A n c m.f.s.data := by
  obtain ⟨cs, rfl, hsz⟩ := okWide_struct Try.underlying73 hv
  obtain ⟨fuel, hf⟩ := h
  obtain ⟨_, m, hm⟩ := bMl.plain _ _ _ _ _ _ hf hs
  obtain ⟨l⟩ := cs
  have hl : l.length = 13 := hsz.trans (by kernel_rfl)
  obtain ⟨A, n, c, hc, hw, hb⟩ := eMl_iff.1 hm
  match l, hl with
  | [c0, c1, c2, c3, c4, c5, c6, c7, c8, c9, c10, c11, c12], _ =>
    simp [Value.cells] at hc
    obtain ⟨rfl, rfl, rfl, rfl, rfl, rfl, rfl, rfl, rfl, rfl, rfl, rfl, rfl⟩ := hc
    exact ⟨m, A, n, c, rfl, hw, hb⟩
end Go.Proofs.Ytahkpbenebmmdaa
