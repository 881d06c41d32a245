/- The library's variables as the row lists them: what the list gives the walks; a world that lays them. No condition. -/
import Derived.Test.YtmiaplgfbphfmaaGreatDoorMPB
import Derived.Deep.CondSized
import Derived.Test.YtmiaplgfbphfmaaGreatDoorMPR
import Derived.Test.YtmiaplgfbphfmaaGreatDoorMPV
import Derived.ChangeMaps5
import Derived.SizedLaws
import Derived.Test.YtmiaplgfbphfmaaGreatDoorCards
import Derived.Test.YtmiaplgfbphfmaaGreatDoorTie
import Derived.Deep.DeepHandedRow
import Derived.Deep.DeepWitnessRowRef
import Derived.Stop.LaidErr
import Derived.LaidLaws
import Derived.Lib.LaidTab
set_option linter.unusedSimpArgs false
set_option linter.unusedVariables false
namespace Go.Proofs.YtmiaplgfbphfmaaGreatDoor
open Go.RowKit Go.ChangeShapes Go.WideShapes Go.ChangeAt Go.Deep Go.Joins

/-- Whatever reads as a datum of type T reads so, and holds no more than the datum's bulk. -/
def OpensB {α : Type} (P : Program) (T : TypeId) (size : Nat) (r : ERd α) (μ : α → Nat) : Prop :=
  ∀ (H : Type) (enc : TypeId × Value → H) (w : World) (fuel : Nat) (cs : List Value) (x : DataW H × List MemPlace), DataW.trod enc P w 0 (fun _ => true) true fuel T cs = some x →
    (∀ n ∈ x.1.weights P T, n ≤ reachBytes) → cs.length = size ∧ ∃ y, r w (LT w.heap.size) (fun j => cs[j]?) y ∧ μ y ≤ Rows.uptoBulk x.1

theorem bulk_pos {H : Type} (d : DataW H) : 1 ≤ Rows.uptoBulk d := by
  cases d with
  | lit l => cases l <;> simp [Rows.uptoBulk]
  | nil => simp [Rows.uptoBulk]
  | ptr d => simp [Rows.uptoBulk]
  | slice elems spare => simp [Rows.uptoBulk]
  | agg parts => simp [Rows.uptoBulk]
  | iface t d => simp [Rows.uptoBulk]
  | map entries => simp [Rows.uptoBulk]
  | held h => simp [Rows.uptoBulk]
theorem Opens.one {α : Type} {P : Program} {T : TypeId} {size : Nat} {r : ERd α} (h : Opens P T size r) : OpensB P T size r (fun _ => 1) := by
  intro H enc w fuel cs x ht hw
  obtain ⟨h1, y, hy⟩ := h H enc w fuel cs x ht hw
  exact ⟨h1, y, hy, bulk_pos _⟩
theorem sum_bulk {α H : Type} {μ : α → Nat} : ∀ {ys : List α} {ds : List (DataW H)}, ys.length = ds.length → (∀ (i : Nat) (y : α) (d : DataW H), ys[i]? = some y → ds[i]? = some d → μ y ≤ Rows.uptoBulk d) → (ys.map μ).sum ≤ Rows.uptoBulkAll ds
  | [], [], _, _ => by simp [Rows.uptoBulkAll]
  | y :: ys, d :: ds, hl, h => by
    have h0 := h 0 y d (by simp) (by simp)
    have ih := sum_bulk (ys := ys) (ds := ds) (by simpa using hl) fun i y d hy hd => h (i + 1) y d (by simpa using hy) (by simpa using hd)
    simp only [List.map_cons, List.sum_cons, Rows.uptoBulkAll]
    omega
theorem opensB_slice {α : Type} {P : Program} {T E : TypeId} {size bytes : Nat} {r : ERd α} {μ : α → Nat} (s : Stable size r) (h0 : 0 < size) (hT : P.underlying T = some (.slice E)) (hE : OpensB P E size r μ) (hc : P.cellsOf E = size) (hby : P.bytesOf E = bytes) : OpensB P T 1 (eSl size bytes r) (fun ys => (ys.map μ).sum) := by
  intro H enc w fuel cs x h hw
  rcases open_slice hT h with ⟨rfl, _⟩ | ⟨a, len, cap, m, n, D, Pl, rfl, _, hl, hm, hmm, hx, hi⟩
  · exact ⟨rfl, [], ⟨none, 0, 0, rfl, ⟨by simp, by omega, by unfold maxLen; omega⟩, Sl.nil⟩, by simp⟩
  · have hlm : len ≤ m := by rw [hmm]; split <;> omega
    subst hx
    have hD : ∀ i, i < len → ∀ k ∈ (D i).weights P E, k ≤ reachBytes := by
      intro i hi k hk
      refine hw k ?_
      simp only [DataW.weights, hT, List.mem_cons, List.mem_append]
      exact .inr (.inl (weightsAll_mem (d := D i) (List.mem_map.2 ⟨i, List.mem_range.2 hi, rfl⟩) k hk))
    have hlen : len * bytes ≤ lim := by
      have h0 := hw ((((List.range len).map D).length + ((List.range (m - len)).map fun j => D (len + j)).length) * P.bytesOf E) (by simp [DataW.weights, hT])
      simp only [List.length_map, List.length_range, hby, reachBytes] at h0
      have : len * bytes ≤ (len + (m - len)) * bytes := Nat.mul_le_mul_right _ (by omega)
      unfold lim
      omega
    obtain ⟨ys, hyl, hys⟩ := list_of len (fun i y => r w (LT w.heap.size) (fun j => w.cell? (a.add (i * size + j))) y ∧ μ y ≤ Rows.uptoBulk (D i)) fun i hilt => by
      obtain ⟨cs', hcs, ht⟩ := hi i (by omega)
      obtain ⟨_, hcl, hat⟩ := World.cells?_some hcs
      obtain ⟨hsz, y, hy, hb⟩ := hE H enc w n cs' (D i, Pl i) ht (hD i hilt)
      refine ⟨y, s.mono (fun j u hj hu => ?_) hy, hb⟩
      rw [← add_of_add, ← hc, hat j (by omega)]
      exact hu
    refine ⟨rfl, ys, ⟨some a, len, cap, rfl, ⟨hlen, hl, hm⟩, hyl, fun hn => ⟨a, rfl, ?_, fun i x hx => (hys i x hx).1⟩⟩, ?_⟩
    · obtain ⟨cs', hcs, ht⟩ := hi 0 (by omega)
      obtain ⟨_, hcl, hat⟩ := World.cells?_some hcs
      have h1 := hat 0 (by omega)
      rw [List.getElem?_eq_getElem (by omega)] at h1
      have := World.block_lt_of_cell? w _ h1
      rw [block_of_add, block_of_add] at this
      exact this
    · have : (ys.map μ).sum ≤ Rows.uptoBulkAll ((List.range len).map D) := sum_bulk (by simp [hyl]) fun i y d hy hd => by
        rw [List.getElem?_map] at hd
        obtain ⟨i', hi', rfl⟩ := Option.map_eq_some_iff.1 hd
        obtain rfl : i = i' := by
          have := (List.getElem?_eq_some_iff.1 hi').2
          simpa using this
        exact (hys i y hy).2
      simp only [Rows.uptoBulk]
      omega
theorem sum_ones {α : Type} (l : List α) : (l.map fun _ => 1).sum = l.length := by
  induction l with
  | nil => rfl
  | cons x r ih => simp only [List.map_cons, List.sum_cons, List.length_cons, ih]; omega
end Go.Proofs.YtmiaplgfbphfmaaGreatDoor
namespace Go.Proofs.YtmiaplgfbphfmaaGreatDoor
set_option maxRecDepth 100000
open Go.RowKit Go.ChangeShapes Go.WideShapes Go.ChangeAt Go.Deep Go.Joins

/-- Fields, one behind the other. -/
def OpensF {α : Type} (P : Program) (fl : List Field) (off : Nat) (r : ERd α) (μ : α → Nat) : Prop :=
  ∀ (H : Type) (enc : TypeId × Value → H) (w : World) (fuel : Nat) (cs : List Value) (xs : List (DataW H × List MemPlace)), xs.length = fl.length →
    (∀ (i : Nat) (f : Field), fl[i]? = some f → DataW.trod enc P w 0 (fun _ => true) true fuel f.type ((cs.drop f.offset).take (P.cellsOf f.type)) = xs[i]?) →
    (∀ (i : Nat) (f : Field) (x : DataW H × List MemPlace), fl[i]? = some f → xs[i]? = some x → ∀ n ∈ x.1.weights P f.type, n ≤ reachBytes) →
    ∃ y, r w (LT w.heap.size) (fun j => cs[off + j]?) y ∧ μ y ≤ Rows.uptoBulkAll (xs.map (·.1))

theorem field_mono {α : Type} {size off : Nat} {r : ERd α} {w : World} {S : Nat → Prop} {cs : List Value} {y : α} (s : Stable size r) (h : r w S (fun j => ((cs.drop off).take size)[j]?) y) : r w S (fun j => cs[off + j]?) y :=
  s.mono (fun j u hj hu => by
    rw [List.getElem?_take, if_pos hj, List.getElem?_drop] at hu
    exact hu) h
theorem opensF_one {α : Type} {P : Program} {f : Field} {off size : Nat} {r : ERd α} {μ : α → Nat} (s : Stable size r) (ho : f.offset = off) (hc : P.cellsOf f.type = size) (h : OpensB P f.type size r μ) : OpensF P [f] off r μ := by
  intro H enc w fuel cs xs hl hx hw
  match xs, hl with
  | [x], _ =>
    have h0 := hx 0 f rfl
    rw [ho, hc] at h0
    obtain ⟨_, y, hy, hb⟩ := h H enc w fuel _ x h0 (hw 0 f x rfl rfl)
    refine ⟨y, field_mono s hy, ?_⟩
    simp only [List.map_cons, List.map_nil, Rows.uptoBulkAll]
    omega
theorem opensF_cons {α β : Type} {P : Program} {f : Field} {fl : List Field} {off size : Nat} {r : ERd α} {q : ERd β} {μ : α → Nat} {ν : β → Nat} (s : Stable size r) (ho : f.offset = off) (hc : P.cellsOf f.type = size) (h : OpensB P f.type size r μ) (hf : OpensF P fl (off + size) q ν) :
    OpensF P (f :: fl) off (ePair size r q) (fun p => μ p.1 + ν p.2) := by
  intro H enc w fuel cs xs hl hx hw
  match xs, hl with
  | x :: xs, hl =>
    have h0 := hx 0 f rfl
    rw [ho, hc] at h0
    obtain ⟨_, y, hy, hb⟩ := h H enc w fuel _ x h0 (hw 0 f x rfl rfl)
    obtain ⟨z, hz, hb2⟩ := hf H enc w fuel cs xs (by simpa using hl) (fun i f' hf' => by simpa using hx (i + 1) f' (by simpa using hf')) (fun i f' x' hf' hx' => hw (i + 1) f' x' (by simpa using hf') (by simpa using hx'))
    refine ⟨(y, z), ⟨field_mono s hy, ?_⟩, ?_⟩
    · have e : (fun j => cs[off + (size + j)]?) = fun j => cs[off + size + j]? := funext fun j => by rw [Nat.add_assoc]
      rw [e]; exact hz
    · simp only [List.map_cons, Rows.uptoBulkAll]
      omega
theorem opensB_struct {α β : Type} {P : Program} {T : TypeId} {fs : Array Field} {size : Nat} {r : ERd α} {μ : α → Nat} (g : β → α) (hg : ∀ a, ∃ b, g b = a) (hT : P.underlying T = some (.struct fs)) (hc : P.cellsOf T = size) (h : OpensF P fs.toList 0 r μ) : OpensB P T size (eMap g r) (fun b => μ (g b)) := by
  intro H enc w fuel cs x ht hw
  obtain ⟨xs, n, _, hx, hlen, hxl, hf⟩ := DataW.trod_struct hT ht
  subst hx
  refine ⟨hlen.trans hc, ?_⟩
  obtain ⟨y, hy, hb⟩ := h H enc w n cs xs (by simpa using hxl) (fun i f hi => hf i f (by simpa using hi)) (fun i f x hi hxi n hn => hw n (by
    simp only [DataW.weights, hT]
    exact DataW.weights_mem_each (j := i) (t := f.type) (d := x.1) (by simp [List.getElem?_map] at hi ⊢; exact ⟨f, hi, rfl⟩) (by simp [List.getElem?_map, hxi]) n hn))
  obtain ⟨b, rfl⟩ := hg y
  refine ⟨b, ?_, ?_⟩
  · have e : (fun j => cs[0 + j]?) = fun j => cs[j]? := funext fun j => by rw [Nat.zero_add]
    rw [e] at hy
    exact hy
  · simp only [Rows.uptoBulk]
    omega
theorem OpensB.plain {α : Type} {P : Program} {T : TypeId} {size : Nat} {r : ERd α} {μ : α → Nat} (h : OpensB P T size r μ) : Opens P T size r := by
  intro H enc w fuel cs x ht hw
  obtain ⟨h1, y, hy, _⟩ := h H enc w fuel cs x ht hw
  exact ⟨h1, y, hy⟩
theorem OpensB.as {α : Type} {P : Program} {T : TypeId} {size : Nat} {r : ERd α} {μ ν : α → Nat} (h : OpensB P T size r μ) (e : ∀ a, ν a ≤ μ a) : OpensB P T size r ν := by
  intro H enc w fuel cs x ht hw
  obtain ⟨h1, y, hy, hb⟩ := h H enc w fuel cs x ht hw
  exact ⟨h1, y, hy, Nat.le_trans (e y) hb⟩

theorem bInt : OpensB Tryz.prog 3 1 eInt (fun _ => 1) := (opens_int Tryz.underlying3).one
theorem bBlock : OpensB Tryz.prog 36 1 eBlock (fun l => (l.map fun _ => 1).sum) := opensB_slice sByte (by decide) Tryz.underlying36 (opens_byte Tryz.underlying5).one (by kernel_rfl) (by kernel_rfl)
theorem bPlan : OpensB Tryz.prog 32 2 (eMap (fun p : Int × Int => p) (ePair 1 eInt eInt)) (fun _ => 1) :=
  (opensB_struct (fun p : Int × Int => p) (fun a => ⟨a, rfl⟩) Tryz.underlying32 (by kernel_rfl) (opensF_cons sInt rfl (by kernel_rfl) bInt (opensF_one sInt rfl (by kernel_rfl) bInt))).as fun _ => by simp
def Hd.tup5 (h : Hd) : Int × Int × Int × Int × (Int × Int) := (h.frm, h.seq, h.to, h.till, (h.bytes, h.block))
theorem bHd : OpensB Tryz.prog 34 6 eHd (fun _ => 1) := by
  have h := opensB_struct (size := 6) Hd.tup5 (fun ⟨a, b, c, d, e, f⟩ => ⟨⟨a, b, c, d, e, f⟩, rfl⟩) Tryz.underlying34 (by kernel_rfl) (opensF_cons sInt rfl (by kernel_rfl) bInt (opensF_cons sInt rfl (by kernel_rfl) bInt (opensF_cons sInt rfl (by kernel_rfl) bInt (opensF_cons sInt rfl (by kernel_rfl) bInt (opensF_one (.map _ (sInt.pair sInt)) rfl (by kernel_rfl) bPlan)))))
  exact h.as fun _ => by simp
theorem bSm : OpensB Tryz.prog 38 2 eSm (fun s => s.data.length) :=
  (opensB_struct Sm.tup (fun ⟨a, b⟩ => ⟨⟨a, b⟩, rfl⟩) Tryz.underlying38 (by kernel_rfl) (opensF_cons sInt rfl (by kernel_rfl) bInt (opensF_one wBlock rfl (by kernel_rfl) bBlock))).as fun s => by simp [sum_ones, Sm.tup]
end Go.Proofs.YtmiaplgfbphfmaaGreatDoor
namespace Go.Proofs.YtmiaplgfbphfmaaGreatDoor
set_option maxRecDepth 100000
open Go.RowKit Go.ChangeShapes Go.WideShapes Go.ChangeAt Go.Deep Go.Joins

theorem OpensB.free {α : Type} {P : Program} {T : TypeId} {size : Nat} {r : ERd α} {μ : α → Nat} (h : OpensB P T size r μ) : OpensB P T size r (fun _ => 0) := h.as fun _ => Nat.zero_le _
theorem bBytes : OpensB Tryz.prog 35 1 eBlock (fun _ => 0) := (opensB_slice sByte (by decide) Tryz.underlying35 (opens_byte Tryz.underlying5).one (by kernel_rfl) (by kernel_rfl)).free
theorem bRc : OpensB Tryz.prog 40 13 eRc (fun _ => 0) :=
  (opensB_struct Rc.tup (fun ⟨a, b, c, d, e, f, g⟩ => ⟨⟨a, b, c, d, e, f, g⟩, rfl⟩) Tryz.underlying40 (by kernel_rfl) (opensF_cons sInt rfl (by kernel_rfl) bInt (opensF_cons sInt rfl (by kernel_rfl) bInt (opensF_cons sInt rfl (by kernel_rfl) bInt (opensF_cons sInt rfl (by kernel_rfl) bInt (opensF_cons sHd rfl (by kernel_rfl) bHd (opensF_cons sSm rfl (by kernel_rfl) bSm (opensF_one wBlock rfl (by kernel_rfl) bBytes)))))))).free
theorem openRecs : Opens Tryz.prog 22 1 (eSl 13 136 eRc) := (opensB_slice sRc (by decide) Tryz.underlying22 bRc (by kernel_rfl) (by kernel_rfl)).plain
end Go.Proofs.YtmiaplgfbphfmaaGreatDoor
namespace Go.Proofs.YtmiaplgfbphfmaaGreatDoor
set_option maxRecDepth 100000
open Go.RowKit Go.ChangeShapes Go.WideShapes Go.ChangeAt
end Go.Proofs.YtmiaplgfbphfmaaGreatDoor
namespace Go.Proofs.YtmiaplgfbphfmaaGreatDoor
set_option maxRecDepth 100000
open Go.RowKit

theorem starErr : "*" ++ "errors.errorString" = "*errors.errorString" := by decide
theorem rowErr (u : TypeId) (h : Tryz.prog.typeName? 3 u = some "*errors.errorString") : u = 315 :=
  typeName_ptr_named (nm := "errors.errorString") (by rw [starErr]; kernel_rfl) (by kernel_rfl) (by decide) u (by rw [starErr]; exact h)
abbrev laidList : List (String × DataW Unit) := [("math/bits.deBruijn32tab", Rows.laid_math_bits_deBruijn32tab), ("math/bits.deBruijn64tab", Rows.laid_math_bits_deBruijn64tab), ("internal/strconv.uint64pow10", Rows.laid_internal_strconv_uint64pow10), ("unicode/utf8.acceptRanges", Rows.laid_unicode_utf8_acceptRanges), ("strconv.ErrRange", Rows.laid_strconv_ErrRange), ("strconv.ErrSyntax", Rows.laid_strconv_ErrSyntax), ("unicode/utf8.first", Rows.laid_unicode_utf8_first)]
/-- What the list gives. -/
theorem vars_of {W : World} (hL : laidMet Tryz.prog laidList W) (hsh : W.ShapedOpen Tryz.prog) : Vars W := by
  obtain ⟨a1, s1, hv1, -, -, -⟩ := laid_sentinel (g := 3) hL.tail.tail.tail.tail (by kernel_rfl) (by kernel_rfl) Tryz.underlying211 rowErr Tryz.underlying315 Tryz.underlying317 rfl rfl Tryz.underlying9 (by kernel_rfl) (by kernel_rfl)
  obtain ⟨a0, s0, hv0, -, -, -⟩ := laid_sentinel (g := 2) hL.tail.tail.tail.tail.tail (by kernel_rfl) (by kernel_rfl) Tryz.underlying211 rowErr Tryz.underlying315 Tryz.underlying317 rfl rfl Tryz.underlying9 (by kernel_rfl) (by kernel_rfl)
  obtain ⟨m, hm⟩ := Tryz.laysM146.s1_3 W hsh
  exact ⟨Lib.tabIs_of_head (zs := Lib.pow10Tab) gPow (by kernel_rfl) Tryz.underlying299 Tryz.underlying269 (by kernel_rfl) (by kernel_rfl) hL.tail.tail, ⟨_, _, hv0⟩, ⟨_, _, hv1⟩, ⟨m, hm⟩⟩

def litCells : DataW Unit → List Value
  | .agg ds => ds.flatMap fun
    | .agg es => es.flatMap fun
      | .lit (.int k n) => [.int k n]
      | _ => []
    | .lit (.int k n) => [.int k n]
    | _ => []
  | _ => []
noncomputable def lowN : Nat := (World.holding Tryz.prog default ⟨#[], #[], []⟩).heap.size
/-- The settled world, two blocks more, the variables laid. -/
noncomputable def laidWorld (os : Os) : World :=
  let w0 := World.holding Tryz.prog os ⟨#[.cells #[.string ⟨#[105, 110, 118, 97, 108, 105, 100, 32, 115, 121, 110, 116, 97, 120]⟩] 317, .cells #[.string ⟨#[118, 97, 108, 117, 101, 32, 111, 117, 116, 32, 111, 102, 32, 114, 97, 110, 103, 101]⟩] 317], #[], []⟩
  let put (h : Array Obj) (g : Nat) (cs : Array Value) : Array Obj := h.modify g fun
    | .cells _ t frozen => .cells cs t frozen
    | o => o
  let h0 := put (put w0.heap 2 #[.iface 315 (.pointer (some ⟨lowN, 0, none⟩))]) 3 #[.iface 315 (.pointer (some ⟨lowN + 1, 0, none⟩))]
  let h1 := put h0 1 (litCells Rows.laid_internal_strconv_uint64pow10).toArray
  let h2 := put h1 6 (litCells Rows.laid_unicode_utf8_first).toArray
  let h3 := put h2 7 (litCells Rows.laid_unicode_utf8_acceptRanges).toArray
  let h4 := put h3 4 (litCells Rows.laid_math_bits_deBruijn32tab).toArray
  let h5 := put h4 5 (litCells Rows.laid_math_bits_deBruijn64tab).toArray
  { w0 with heap := h5 }
theorem laid_met (os : Os) (args : Array Value) : laidMet Tryz.prog laidList ((laidWorld os).forCall (fun _ _ => 0) ⟨#[], args, []⟩).memory :=
  laidMet_of_run' 8 (by kernel_rfl) (by kernel_rfl)
end Go.Proofs.YtmiaplgfbphfmaaGreatDoor
