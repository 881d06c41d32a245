/- Arguments opened to readings, with how much they hold. No condition. -/
import Derived.Test.YtkfpgnoodhlfgaaDoorOpen
import Derived.Deep.CondSized
set_option linter.unusedSimpArgs false
set_option linter.unusedVariables false
namespace Go.Proofs.YtkfpgnoodhlfgaaDoor
open Go.RowKit Go.ChangeShapes Go.WideShapes Go.ChangeAt Go.Deep Go.Joins

/-- Whatever reads as a datum of type T reads so, and holds no more than the datum's bulk. -/
def OpensB {α : Type} (P : Program) (T : TypeId) (size : Nat) (r : ERd α) (μ : α → Nat) : Prop :=
  ∀ (H : Type) (enc : TypeId × Value → H) (w : World) (fuel : Nat) (cs : List Value) (x : DataW H × List MemPlace), DataW.trod enc P w 0 (fun _ => true) true fuel T cs = some x →
    (∀ n ∈ x.1.weights P T, n ≤ reachBytes) → cs.length = size ∧ ∃ y, r w (LT w.heap.size) (fun j => cs[j]?) y ∧ μ y ≤ Rows.uptoBulk x.1

theorem bulk_pos {H : Type} (d : DataW H) : 1 ≤ Rows.uptoBulk d := by
  cases d with
  | lit l => cases l <;> simp [Rows.uptoBulk]
  | nil => simp [Rows.uptoBulk]
  | ptr d => simp [Rows.uptoBulk]
  | slice elems spare => simp [Rows.uptoBulk]
  | agg parts => simp [Rows.uptoBulk]
  | iface t d => simp [Rows.uptoBulk]
  | map entries => simp [Rows.uptoBulk]
  | held h => simp [Rows.uptoBulk]
theorem Opens.one {α : Type} {P : Program} {T : TypeId} {size : Nat} {r : ERd α} (h : Opens P T size r) : OpensB P T size r (fun _ => 1) := by
  intro H enc w fuel cs x ht hw
  obtain ⟨h1, y, hy⟩ := h H enc w fuel cs x ht hw
  exact ⟨h1, y, hy, bulk_pos _⟩
theorem sum_bulk {α H : Type} {μ : α → Nat} : ∀ {ys : List α} {ds : List (DataW H)}, ys.length = ds.length → (∀ (i : Nat) (y : α) (d : DataW H), ys[i]? = some y → ds[i]? = some d → μ y ≤ Rows.uptoBulk d) → (ys.map μ).sum ≤ Rows.uptoBulkAll ds
  | [], [], _, _ => by simp [Rows.uptoBulkAll]
  | y :: ys, d :: ds, hl, h => by
    have h0 := h 0 y d (by simp) (by simp)
    have ih := sum_bulk (ys := ys) (ds := ds) (by simpa using hl) fun i y d hy hd => h (i + 1) y d (by simpa using hy) (by simpa using hd)
    simp only [List.map_cons, List.sum_cons, Rows.uptoBulkAll]
    omega
theorem bulk_mem {H : Type} {d : DataW H} {l : List (DataW H)} (h : d ∈ l) : Rows.uptoBulk d ≤ Rows.uptoBulkAll l := by
  induction l with
  | nil => cases h
  | cons x r ih =>
    simp only [Rows.uptoBulkAll]
    cases List.mem_cons.1 h with
    | inl e => subst e; omega
    | inr e => have := ih e; omega

theorem opensB_slice {α : Type} {P : Program} {T E : TypeId} {size bytes : Nat} {r : ERd α} {μ : α → Nat} (s : Stable size r) (h0 : 0 < size) (hT : P.underlying T = some (.slice E)) (hE : OpensB P E size r μ) (hc : P.cellsOf E = size) (hby : P.bytesOf E = bytes) : OpensB P T 1 (eSl size bytes r) (fun ys => (ys.map μ).sum) := by
  intro H enc w fuel cs x h hw
  rcases open_slice hT h with ⟨rfl, _⟩ | ⟨a, len, cap, m, n, D, Pl, rfl, _, hl, hm, hmm, hx, hi⟩
  · exact ⟨rfl, [], ⟨none, 0, 0, rfl, ⟨by simp, by omega, by unfold maxLen; omega⟩, Sl.nil⟩, by simp⟩
  · have hlm : len ≤ m := by rw [hmm]; split <;> omega
    subst hx
    have hD : ∀ i, i < len → ∀ k ∈ (D i).weights P E, k ≤ reachBytes := by
      intro i hi k hk
      refine hw k ?_
      simp only [DataW.weights, hT, List.mem_cons, List.mem_append]
      exact .inr (.inl (weightsAll_mem (d := D i) (List.mem_map.2 ⟨i, List.mem_range.2 hi, rfl⟩) k hk))
    have hlen : len * bytes ≤ lim := by
      have h0 := hw ((((List.range len).map D).length + ((List.range (m - len)).map fun j => D (len + j)).length) * P.bytesOf E) (by simp [DataW.weights, hT])
      simp only [List.length_map, List.length_range, hby, reachBytes] at h0
      have : len * bytes ≤ (len + (m - len)) * bytes := Nat.mul_le_mul_right _ (by omega)
      unfold lim
      omega
    obtain ⟨ys, hyl, hys⟩ := list_of len (fun i y => r w (LT w.heap.size) (fun j => w.cell? (a.add (i * size + j))) y ∧ μ y ≤ Rows.uptoBulk (D i)) fun i hilt => by
      obtain ⟨cs', hcs, ht⟩ := hi i (by omega)
      obtain ⟨_, hcl, hat⟩ := World.cells?_some hcs
      obtain ⟨hsz, y, hy, hb⟩ := hE H enc w n cs' (D i, Pl i) ht (hD i hilt)
      refine ⟨y, s.mono (fun j u hj hu => ?_) hy, hb⟩
      rw [← add_of_add, ← hc, hat j (by omega)]
      exact hu
    refine ⟨rfl, ys, ⟨some a, len, cap, rfl, ⟨hlen, hl, hm⟩, hyl, fun hn => ⟨a, rfl, ?_, fun i x hx => (hys i x hx).1⟩⟩, ?_⟩
    · obtain ⟨cs', hcs, ht⟩ := hi 0 (by omega)
      obtain ⟨_, hcl, hat⟩ := World.cells?_some hcs
      have h1 := hat 0 (by omega)
      rw [List.getElem?_eq_getElem (by omega)] at h1
      have := World.block_lt_of_cell? w _ h1
      rw [block_of_add, block_of_add] at this
      exact this
    · have : (ys.map μ).sum ≤ Rows.uptoBulkAll ((List.range len).map D) := sum_bulk (by simp [hyl]) fun i y d hy hd => by
        rw [List.getElem?_map] at hd
        obtain ⟨i', hi', rfl⟩ := Option.map_eq_some_iff.1 hd
        obtain rfl : i = i' := by
          have := (List.getElem?_eq_some_iff.1 hi').2
          simpa using this
        exact (hys i y hy).2
      simp only [Rows.uptoBulk]
      omega
theorem openBytesB : OpensB Tryd.prog 26 1 eBlock (fun l => (l.map fun _ => 1).sum) := opensB_slice sByte (by decide) Tryd.underlying26 (opens_byte Tryd.underlying5).one (by kernel_rfl) (by kernel_rfl)
theorem openBlocksB : OpensB Tryd.prog 109 1 eBlocks (fun ls => (ls.map fun l => (l.map fun _ => 1).sum).sum) := opensB_slice wBlock (by decide) Tryd.underlying109 openBytesB (by kernel_rfl) (by kernel_rfl)
theorem sum_ones {α : Type} (l : List α) : (l.map fun _ => 1).sum = l.length := by
  induction l with
  | nil => rfl
  | cons x r ih => simp only [List.map_cons, List.sum_cons, List.length_cons, ih]; omega
end Go.Proofs.YtkfpgnoodhlfgaaDoor
