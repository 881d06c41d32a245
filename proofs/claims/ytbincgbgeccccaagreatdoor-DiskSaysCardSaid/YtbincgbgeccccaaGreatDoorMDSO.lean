/- A disk as an argument, opened to its two texts. No condition. -/
import Derived.Test.YtbincgbgeccccaaGreatDoorOpen
import Derived.Deep.CondSized
import Derived.Test.YtbincgbgeccccaaGreatDoorSt
import Derived.Test.YtbincgbgeccccaaGreatDoorNoteP
import Derived.Test.YtbincgbgeccccaaGreatDoorStr
import Derived.ChangeMaps5
import Derived.SizedLaws
import Derived.Test.YtbincgbgeccccaaGreatDoorMDSH
set_option linter.unusedSimpArgs false
set_option linter.unusedVariables false
namespace Go.Proofs.YtbincgbgeccccaaGreatDoor
open Go.RowKit Go.ChangeShapes Go.WideShapes Go.ChangeAt Go.Deep Go.Joins

/-- Whatever reads as a datum of type T reads so, and holds no more than the datum's bulk. -/
def OpensB {α : Type} (P : Program) (T : TypeId) (size : Nat) (r : ERd α) (μ : α → Nat) : Prop :=
  ∀ (H : Type) (enc : TypeId × Value → H) (w : World) (fuel : Nat) (cs : List Value) (x : DataW H × List MemPlace), DataW.trod enc P w 0 (fun _ => true) true fuel T cs = some x →
    (∀ n ∈ x.1.weights P T, n ≤ reachBytes) → cs.length = size ∧ ∃ y, r w (LT w.heap.size) (fun j => cs[j]?) y ∧ μ y ≤ Rows.uptoBulk x.1

theorem bulk_pos {H : Type} (d : DataW H) : 1 ≤ Rows.uptoBulk d := by
  cases d with
  | lit l => cases l <;> simp [Rows.uptoBulk]
  | nil => simp [Rows.uptoBulk]
  | ptr d => simp [Rows.uptoBulk]
  | slice elems spare => simp [Rows.uptoBulk]
  | agg parts => simp [Rows.uptoBulk]
  | iface t d => simp [Rows.uptoBulk]
  | map entries => simp [Rows.uptoBulk]
  | held h => simp [Rows.uptoBulk]
theorem Opens.one {α : Type} {P : Program} {T : TypeId} {size : Nat} {r : ERd α} (h : Opens P T size r) : OpensB P T size r (fun _ => 1) := by
  intro H enc w fuel cs x ht hw
  obtain ⟨h1, y, hy⟩ := h H enc w fuel cs x ht hw
  exact ⟨h1, y, hy, bulk_pos _⟩
theorem sum_bulk {α H : Type} {μ : α → Nat} : ∀ {ys : List α} {ds : List (DataW H)}, ys.length = ds.length → (∀ (i : Nat) (y : α) (d : DataW H), ys[i]? = some y → ds[i]? = some d → μ y ≤ Rows.uptoBulk d) → (ys.map μ).sum ≤ Rows.uptoBulkAll ds
  | [], [], _, _ => by simp [Rows.uptoBulkAll]
  | y :: ys, d :: ds, hl, h => by
    have h0 := h 0 y d (by simp) (by simp)
    have ih := sum_bulk (ys := ys) (ds := ds) (by simpa using hl) fun i y d hy hd => h (i + 1) y d (by simpa using hy) (by simpa using hd)
    simp only [List.map_cons, List.sum_cons, Rows.uptoBulkAll]
    omega
theorem bulk_mem {H : Type} {d : DataW H} {l : List (DataW H)} (h : d ∈ l) : Rows.uptoBulk d ≤ Rows.uptoBulkAll l := by
  induction l with
  | nil => cases h
  | cons x r ih =>
    simp only [Rows.uptoBulkAll]
    cases List.mem_cons.1 h with
    | inl e => subst e; omega
    | inr e => have := ih e; omega

theorem opensB_slice {α : Type} {P : Program} {T E : TypeId} {size bytes : Nat} {r : ERd α} {μ : α → Nat} (s : Stable size r) (h0 : 0 < size) (hT : P.underlying T = some (.slice E)) (hE : OpensB P E size r μ) (hc : P.cellsOf E = size) (hby : P.bytesOf E = bytes) : OpensB P T 1 (eSl size bytes r) (fun ys => (ys.map μ).sum) := by
  intro H enc w fuel cs x h hw
  rcases open_slice hT h with ⟨rfl, _⟩ | ⟨a, len, cap, m, n, D, Pl, rfl, _, hl, hm, hmm, hx, hi⟩
  · exact ⟨rfl, [], ⟨none, 0, 0, rfl, ⟨by simp, by omega, by unfold maxLen; omega⟩, Sl.nil⟩, by simp⟩
  · have hlm : len ≤ m := by rw [hmm]; split <;> omega
    subst hx
    have hD : ∀ i, i < len → ∀ k ∈ (D i).weights P E, k ≤ reachBytes := by
      intro i hi k hk
      refine hw k ?_
      simp only [DataW.weights, hT, List.mem_cons, List.mem_append]
      exact .inr (.inl (weightsAll_mem (d := D i) (List.mem_map.2 ⟨i, List.mem_range.2 hi, rfl⟩) k hk))
    have hlen : len * bytes ≤ lim := by
      have h0 := hw ((((List.range len).map D).length + ((List.range (m - len)).map fun j => D (len + j)).length) * P.bytesOf E) (by simp [DataW.weights, hT])
      simp only [List.length_map, List.length_range, hby, reachBytes] at h0
      have : len * bytes ≤ (len + (m - len)) * bytes := Nat.mul_le_mul_right _ (by omega)
      unfold lim
      omega
    obtain ⟨ys, hyl, hys⟩ := list_of len (fun i y => r w (LT w.heap.size) (fun j => w.cell? (a.add (i * size + j))) y ∧ μ y ≤ Rows.uptoBulk (D i)) fun i hilt => by
      obtain ⟨cs', hcs, ht⟩ := hi i (by omega)
      obtain ⟨_, hcl, hat⟩ := World.cells?_some hcs
      obtain ⟨hsz, y, hy, hb⟩ := hE H enc w n cs' (D i, Pl i) ht (hD i hilt)
      refine ⟨y, s.mono (fun j u hj hu => ?_) hy, hb⟩
      rw [← add_of_add, ← hc, hat j (by omega)]
      exact hu
    refine ⟨rfl, ys, ⟨some a, len, cap, rfl, ⟨hlen, hl, hm⟩, hyl, fun hn => ⟨a, rfl, ?_, fun i x hx => (hys i x hx).1⟩⟩, ?_⟩
    · obtain ⟨cs', hcs, ht⟩ := hi 0 (by omega)
      obtain ⟨_, hcl, hat⟩ := World.cells?_some hcs
      have h1 := hat 0 (by omega)
      rw [List.getElem?_eq_getElem (by omega)] at h1
      have := World.block_lt_of_cell? w _ h1
      rw [block_of_add, block_of_add] at this
      exact this
    · have : (ys.map μ).sum ≤ Rows.uptoBulkAll ((List.range len).map D) := sum_bulk (by simp [hyl]) fun i y d hy hd => by
        rw [List.getElem?_map] at hd
        obtain ⟨i', hi', rfl⟩ := Option.map_eq_some_iff.1 hd
        obtain rfl : i = i' := by
          have := (List.getElem?_eq_some_iff.1 hi').2
          simpa using this
        exact (hys i y hy).2
      simp only [Rows.uptoBulk]
      omega
theorem openBytesB : OpensB Tryz.prog 22 1 eBlock (fun l => (l.map fun _ => 1).sum) := opensB_slice sByte (by decide) Tryz.underlying22 (opens_byte Tryz.underlying5).one (by kernel_rfl) (by kernel_rfl)
theorem openBlocksB : OpensB Tryz.prog 66 1 eBlocks (fun ls => (ls.map fun l => (l.map fun _ => 1).sum).sum) := opensB_slice wBlock (by decide) Tryz.underlying66 openBytesB (by kernel_rfl) (by kernel_rfl)
theorem sum_ones {α : Type} (l : List α) : (l.map fun _ => 1).sum = l.length := by
  induction l with
  | nil => rfl
  | cons x r ih => simp only [List.map_cons, List.sum_cons, List.length_cons, ih]; omega
end Go.Proofs.YtbincgbgeccccaaGreatDoor
namespace Go.Proofs.YtbincgbgeccccaaGreatDoor
open Go.RowKit Go.ChangeShapes Go.WideShapes Go.ChangeAt Go.Deep Go.Joins

/-- Fields, one behind the other. -/
def OpensF {α : Type} (P : Program) (fl : List Field) (off : Nat) (r : ERd α) (μ : α → Nat) : Prop :=
  ∀ (H : Type) (enc : TypeId × Value → H) (w : World) (fuel : Nat) (cs : List Value) (xs : List (DataW H × List MemPlace)), xs.length = fl.length →
    (∀ (i : Nat) (f : Field), fl[i]? = some f → DataW.trod enc P w 0 (fun _ => true) true fuel f.type ((cs.drop f.offset).take (P.cellsOf f.type)) = xs[i]?) →
    (∀ (i : Nat) (f : Field) (x : DataW H × List MemPlace), fl[i]? = some f → xs[i]? = some x → ∀ n ∈ x.1.weights P f.type, n ≤ reachBytes) →
    ∃ y, r w (LT w.heap.size) (fun j => cs[off + j]?) y ∧ μ y ≤ Rows.uptoBulkAll (xs.map (·.1))

theorem field_mono {α : Type} {size off : Nat} {r : ERd α} {w : World} {S : Nat → Prop} {cs : List Value} {y : α} (s : Stable size r) (h : r w S (fun j => ((cs.drop off).take size)[j]?) y) : r w S (fun j => cs[off + j]?) y :=
  s.mono (fun j u hj hu => by
    rw [List.getElem?_take, if_pos hj, List.getElem?_drop] at hu
    exact hu) h
theorem opensF_one {α : Type} {P : Program} {f : Field} {off size : Nat} {r : ERd α} {μ : α → Nat} (s : Stable size r) (ho : f.offset = off) (hc : P.cellsOf f.type = size) (h : OpensB P f.type size r μ) : OpensF P [f] off r μ := by
  intro H enc w fuel cs xs hl hx hw
  match xs, hl with
  | [x], _ =>
    have h0 := hx 0 f rfl
    rw [ho, hc] at h0
    obtain ⟨_, y, hy, hb⟩ := h H enc w fuel _ x h0 (hw 0 f x rfl rfl)
    refine ⟨y, field_mono s hy, ?_⟩
    simp only [List.map_cons, List.map_nil, Rows.uptoBulkAll]
    omega
theorem opensF_cons {α β : Type} {P : Program} {f : Field} {fl : List Field} {off size : Nat} {r : ERd α} {q : ERd β} {μ : α → Nat} {ν : β → Nat} (s : Stable size r) (ho : f.offset = off) (hc : P.cellsOf f.type = size) (h : OpensB P f.type size r μ) (hf : OpensF P fl (off + size) q ν) :
    OpensF P (f :: fl) off (ePair size r q) (fun p => μ p.1 + ν p.2) := by
  intro H enc w fuel cs xs hl hx hw
  match xs, hl with
  | x :: xs, hl =>
    have h0 := hx 0 f rfl
    rw [ho, hc] at h0
    obtain ⟨_, y, hy, hb⟩ := h H enc w fuel _ x h0 (hw 0 f x rfl rfl)
    obtain ⟨z, hz, hb2⟩ := hf H enc w fuel cs xs (by simpa using hl) (fun i f' hf' => by simpa using hx (i + 1) f' (by simpa using hf')) (fun i f' x' hf' hx' => hw (i + 1) f' x' (by simpa using hf') (by simpa using hx'))
    refine ⟨(y, z), ⟨field_mono s hy, ?_⟩, ?_⟩
    · have e : (fun j => cs[off + (size + j)]?) = fun j => cs[off + size + j]? := funext fun j => by rw [Nat.add_assoc]
      rw [e]; exact hz
    · simp only [List.map_cons, Rows.uptoBulkAll]
      omega
theorem opensB_struct {α β : Type} {P : Program} {T : TypeId} {fs : Array Field} {size : Nat} {r : ERd α} {μ : α → Nat} (g : β → α) (hg : ∀ a, ∃ b, g b = a) (hT : P.underlying T = some (.struct fs)) (hc : P.cellsOf T = size) (h : OpensF P fs.toList 0 r μ) : OpensB P T size (eMap g r) (fun b => μ (g b)) := by
  intro H enc w fuel cs x ht hw
  obtain ⟨xs, n, _, hx, hlen, hxl, hf⟩ := DataW.trod_struct hT ht
  subst hx
  refine ⟨hlen.trans hc, ?_⟩
  obtain ⟨y, hy, hb⟩ := h H enc w n cs xs (by simpa using hxl) (fun i f hi => hf i f (by simpa using hi)) (fun i f x hi hxi n hn => hw n (by
    simp only [DataW.weights, hT]
    exact DataW.weights_mem_each (j := i) (t := f.type) (d := x.1) (by simp [List.getElem?_map] at hi ⊢; exact ⟨f, hi, rfl⟩) (by simp [List.getElem?_map, hxi]) n hn))
  obtain ⟨b, rfl⟩ := hg y
  refine ⟨b, ?_, ?_⟩
  · have e : (fun j => cs[0 + j]?) = fun j => cs[j]? := funext fun j => by rw [Nat.zero_add]
    rw [e] at hy
    exact hy
  · simp only [Rows.uptoBulk]
    omega
theorem OpensB.plain {α : Type} {P : Program} {T : TypeId} {size : Nat} {r : ERd α} {μ : α → Nat} (h : OpensB P T size r μ) : Opens P T size r := by
  intro H enc w fuel cs x ht hw
  obtain ⟨h1, y, hy, _⟩ := h H enc w fuel cs x ht hw
  exact ⟨h1, y, hy⟩
theorem OpensB.as {α : Type} {P : Program} {T : TypeId} {size : Nat} {r : ERd α} {μ ν : α → Nat} (h : OpensB P T size r μ) (e : ∀ a, ν a ≤ μ a) : OpensB P T size r ν := by
  intro H enc w fuel cs x ht hw
  obtain ⟨h1, y, hy, hb⟩ := h H enc w fuel cs x ht hw
  exact ⟨h1, y, hy, Nat.le_trans (e y) hb⟩

theorem bInt : OpensB Tryz.prog 3 1 eInt (fun _ => 1) := (opens_int Tryz.underlying3).one
theorem bBool : OpensB Tryz.prog 4 1 eBool (fun _ => 1) := (opens_bool Tryz.underlying4).one
theorem bBlock : OpensB Tryz.prog 29 1 eBlock (fun l => (l.map fun _ => 1).sum) := opensB_slice sByte (by decide) Tryz.underlying29 (opens_byte Tryz.underlying5).one (by kernel_rfl) (by kernel_rfl)
theorem bPlan : OpensB Tryz.prog 26 2 (eMap (fun p : Int × Int => p) (ePair 1 eInt eInt)) (fun _ => 1) :=
  (opensB_struct (fun p : Int × Int => p) (fun a => ⟨a, rfl⟩) Tryz.underlying26 (by kernel_rfl) (opensF_cons sInt rfl (by kernel_rfl) bInt (opensF_one sInt rfl (by kernel_rfl) bInt))).as fun _ => by simp
def Hd.tup5 (h : Hd) : Int × Int × Int × Int × (Int × Int) := (h.frm, h.seq, h.to, h.till, (h.bytes, h.block))
theorem bHd : OpensB Tryz.prog 28 6 eHd (fun _ => 1) := by
  have h := opensB_struct (size := 6) Hd.tup5 (fun ⟨a, b, c, d, e, f⟩ => ⟨⟨a, b, c, d, e, f⟩, rfl⟩) Tryz.underlying28 (by kernel_rfl) (opensF_cons sInt rfl (by kernel_rfl) bInt (opensF_cons sInt rfl (by kernel_rfl) bInt (opensF_cons sInt rfl (by kernel_rfl) bInt (opensF_cons sInt rfl (by kernel_rfl) bInt (opensF_one (.map _ (sInt.pair sInt)) rfl (by kernel_rfl) bPlan)))))
  exact h.as fun _ => by simp
theorem bSm : OpensB Tryz.prog 31 2 eSm (fun s => s.data.length) :=
  (opensB_struct Sm.tup (fun ⟨a, b⟩ => ⟨⟨a, b⟩, rfl⟩) Tryz.underlying31 (by kernel_rfl) (opensF_cons sInt rfl (by kernel_rfl) bInt (opensF_one wBlock rfl (by kernel_rfl) bBlock))).as fun s => by simp [sum_ones, Sm.tup]
end Go.Proofs.YtbincgbgeccccaaGreatDoor
namespace Go.Proofs.YtbincgbgeccccaaGreatDoor
set_option maxRecDepth 100000
open Go.RowKit Go.ChangeShapes Go.WideShapes Go.ChangeAt Go.Deep Go.Joins

theorem OpensB.free {α : Type} {P : Program} {T : TypeId} {size : Nat} {r : ERd α} {μ : α → Nat} (h : OpensB P T size r μ) : OpensB P T size r (fun _ => 0) := h.as fun _ => Nat.zero_le _
theorem bBytes : OpensB Tryz.prog 22 1 eBlock (fun _ => 0) := (opensB_slice sByte (by decide) Tryz.underlying22 (opens_byte Tryz.underlying5).one (by kernel_rfl) (by kernel_rfl)).free
theorem bRc : OpensB Tryz.prog 33 13 eRc (fun _ => 0) :=
  (opensB_struct Rc.tup (fun ⟨a, b, c, d, e, f, g⟩ => ⟨⟨a, b, c, d, e, f, g⟩, rfl⟩) Tryz.underlying33 (by kernel_rfl) (opensF_cons sInt rfl (by kernel_rfl) bInt (opensF_cons sInt rfl (by kernel_rfl) bInt (opensF_cons sInt rfl (by kernel_rfl) bInt (opensF_cons sInt rfl (by kernel_rfl) bInt (opensF_cons sHd rfl (by kernel_rfl) bHd (opensF_cons sSm rfl (by kernel_rfl) bSm (opensF_one wBlock rfl (by kernel_rfl) bBytes)))))))).free
/-- A record, by value. -/
theorem openRec {H : Type} {enc : TypeId × Value → H} {W : World} {r : Reach} {base : Nat} {v : Value} {d : DataW H} {p : List MemPlace} (hv : Value.okWide Tryz.prog W r base 33 v) (h : DataW.Trod enc Tryz.prog W 0 (fun _ => true) true 33 v d p) (hs : ∀ n ∈ d.weights Tryz.prog 33, n ≤ reachBytes) :
    ∃ (m : Rc) (A : Option Addr) (n c : Nat) (A2 : Option Addr) (n2 c2 : Nat), v = .agg #[.int .i64 m.kind, .int .i64 m.place, .int .i64 m.n, .int .i64 m.try_, .int .i64 m.h.frm, .int .i64 m.h.seq, .int .i64 m.h.to, .int .i64 m.h.till, .int .i64 m.h.bytes, .int .i64 m.h.block, .int .i64 m.s.id, .slice A n c, .slice A2 n2 c2] ∧ m.wf ∧ Byt W (LT W.heap.size) A n c m.s.data ∧ Byt W (LT W.heap.size) A2 n2 c2 m.cargo := by
  obtain ⟨cs, rfl, hsz⟩ := okWide_struct Tryz.underlying33 hv
  obtain ⟨fuel, hf⟩ := h
  obtain ⟨_, m, hm⟩ := bRc.plain _ _ _ _ _ _ hf hs
  obtain ⟨l⟩ := cs
  have hl : l.length = 13 := hsz.trans (by kernel_rfl)
  obtain ⟨A, n, c, A2, n2, c2, hc, hw, hb, hb2⟩ := eRc_iff.1 hm
  match l, hl with
  | [c0, c1, c2, c3, c4, c5, c6, c7, c8, c9, c10, c11, c12], _ =>
    simp [Value.cells] at hc
    obtain ⟨rfl, rfl, rfl, rfl, rfl, rfl, rfl, rfl, rfl, rfl, rfl, rfl, rfl⟩ := hc
    exact ⟨m, A, n, c, A2, n2, _, rfl, hw, hb, hb2⟩
theorem openRecs : Opens Tryz.prog 39 1 (eSl 13 136 eRc) := (opensB_slice sRc (by decide) Tryz.underlying39 bRc (by kernel_rfl) (by kernel_rfl)).plain
end Go.Proofs.YtbincgbgeccccaaGreatDoor
namespace Go.Proofs.YtbincgbgeccccaaGreatDoor
set_option maxRecDepth 100000
open Go.RowKit Go.ChangeShapes Go.WideShapes Go.ChangeAt
/-- A string, by value. -/
theorem openStrA {H : Type} {enc : TypeId × Value → H} {W : World} {r : Reach} {base : Nat} {v : Value} {d : DataW H} {p : List MemPlace} (hv : Value.okWide Tryz.prog W r base 9 v) (h : DataW.Trod enc Tryz.prog W 0 (fun _ => true) true 9 v d p) (hs : ∀ n ∈ d.weights Tryz.prog 9, n ≤ reachBytes) :
    ∃ l : List UInt8, v = sV l ∧ l.length ≤ lim := by
  obtain ⟨s, rfl, rfl, _, _⟩ := Go.ChangeMaps.open_string Tryz.underlying9 hv h
  refine ⟨s.data.toList, str_eta s, ?_⟩
  have h1 := hs s.data.toList.length (by simp [DataW.weights])
  have h2 := reachBytes_lt
  have e3 : (2 : Nat) ^ 47 = 140737488355328 := by decide
  unfold lim
  omega
/-- A head, by value. -/
theorem openHead {H : Type} {enc : TypeId × Value → H} {W : World} {r : Reach} {base : Nat} {v : Value} {d : DataW H} {p : List MemPlace} (hv : Value.okWide Tryz.prog W r base 28 v) (h : DataW.Trod enc Tryz.prog W 0 (fun _ => true) true 28 v d p) (hs : ∀ n ∈ d.weights Tryz.prog 28, n ≤ reachBytes) :
    ∃ m : Hd, v = .agg #[.int .i64 m.frm, .int .i64 m.seq, .int .i64 m.to, .int .i64 m.till, .int .i64 m.bytes, .int .i64 m.block] ∧ m.wf := by
  obtain ⟨cs, rfl, hsz⟩ := okWide_struct Tryz.underlying28 hv
  obtain ⟨fuel, hf⟩ := h
  obtain ⟨_, m, hm⟩ := bHd.plain _ _ _ _ _ _ hf hs
  obtain ⟨l⟩ := cs
  have hl : l.length = 6 := hsz.trans (by kernel_rfl)
  obtain ⟨hc, hw⟩ := eHd_iff.1 hm
  match l, hl with
  | [c0, c1, c2, c3, c4, c5], _ =>
    simp [Value.cells] at hc
    obtain ⟨rfl, rfl, rfl, rfl, rfl, rfl⟩ := hc
    exact ⟨m, rfl, hw⟩
end Go.Proofs.YtbincgbgeccccaaGreatDoor
namespace Go.Proofs.YtbincgbgeccccaaGreatDoor
set_option maxRecDepth 100000
open Go.RowKit Go.ChangeShapes Go.WideShapes Go.ChangeAt Go.Deep Go.Joins

def Dk.tup (d : Dk) : List UInt8 × List UInt8 := (d.safe, d.wait)
def eDk : ERd Dk := eMap Dk.tup (ePair 1 eBlock eBlock)
theorem eDk_iff {w : World} {S : Nat → Prop} {f : Nat → Option Value} {x : Dk} : eDk w S f x ↔ ∃ A n c A2 n2 c2, (f 0 = some (.slice A n c) ∧ f 1 = some (.slice A2 n2 c2)) ∧ Byt w S A n c x.safe ∧ Byt w S A2 n2 c2 x.wait := by
  simp only [eDk, eMap, Dk.tup, ePair, eBlock, eSl, Nat.add_zero, Byt]
  constructor
  · rintro ⟨⟨A, n, c, s1, b1, d1⟩, A2, n2, c2, s2, b2, d2⟩
    exact ⟨A, n, c, A2, n2, c2, ⟨s1, s2⟩, ⟨b1, d1⟩, b2, d2⟩
  · rintro ⟨A, n, c, A2, n2, c2, ⟨s1, s2⟩, ⟨b1, d1⟩, b2, d2⟩
    exact ⟨⟨A, n, c, s1, b1, d1⟩, A2, n2, c2, s2, b2, d2⟩
theorem bDk : OpensB Tryz.prog 24 2 eDk (fun _ => 0) :=
  (opensB_struct Dk.tup (fun ⟨a, b⟩ => ⟨⟨a, b⟩, rfl⟩) Tryz.underlying24 (by kernel_rfl) (opensF_cons wBlock rfl (by kernel_rfl) bBytes (opensF_one wBlock rfl (by kernel_rfl) bBytes))).free
/-- A disk, by value. -/
theorem openDisk {H : Type} {enc : TypeId × Value → H} {W : World} {r : Reach} {base : Nat} {v : Value} {d : DataW H} {p : List MemPlace} (hv : Value.okWide Tryz.prog W r base 24 v) (h : DataW.Trod enc Tryz.prog W 0 (fun _ => true) true 24 v d p) (hs : ∀ n ∈ d.weights Tryz.prog 24, n ≤ reachBytes) :
    ∃ (m : Dk) (A : Option Addr) (n c : Nat) (A2 : Option Addr) (n2 c2 : Nat), v = .agg #[.slice A n c, .slice A2 n2 c2] ∧ Byt W (LT W.heap.size) A n c m.safe ∧ Byt W (LT W.heap.size) A2 n2 c2 m.wait := by
  obtain ⟨cs, rfl, hsz⟩ := okWide_struct Tryz.underlying24 hv
  obtain ⟨fuel, hf⟩ := h
  obtain ⟨_, m, hm⟩ := bDk.plain _ _ _ _ _ _ hf hs
  obtain ⟨l⟩ := cs
  have hl : l.length = 2 := hsz.trans (by kernel_rfl)
  obtain ⟨A, n, c, A2, n2, c2, hc, hb, hb2⟩ := eDk_iff.1 hm
  match l, hl with
  | [c0, c1], _ =>
    simp [Value.cells] at hc
    obtain ⟨rfl, rfl⟩ := hc
    exact ⟨m, A, n, c, A2, n2, _, rfl, hb, hb2⟩
end Go.Proofs.YtbincgbgeccccaaGreatDoor
