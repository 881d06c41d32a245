/- Arguments opened to readings. No condition. -/
import Derived.Test.YtbincgbgeccccaaGreatDoorBase
import Derived.ProofKit
import Derived.OpenShut
import Derived.ChangeOld
import Derived.SizedLaws
import Derived.Deep.Slices
import Derived.Lib.SmallJoins
set_option maxRecDepth 100000
set_option linter.unusedSimpArgs false
set_option linter.unusedVariables false
namespace Go.Proofs.YtbincgbgeccccaaGreatDoor
open Go.RowKit Go.ChangeShapes Go.WideShapes Go.ChangeAt Go.Deep Go.Joins

theorem own : ownKnob Tryz.prog.godebug = none := by kernel_rfl
theorem laidOut : laidOutB Tryz.prog = true := by kernel_rfl

/-- Whatever reads as a datum of type T reads so. -/
def Opens {α : Type} (P : Program) (T : TypeId) (size : Nat) (r : ERd α) : Prop :=
  ∀ (H : Type) (enc : TypeId × Value → H) (w : World) (fuel : Nat) (cs : List Value) (x : DataW H × List MemPlace), DataW.trod enc P w 0 (fun _ => true) true fuel T cs = some x →
    (∀ n ∈ x.1.weights P T, n ≤ reachBytes) → cs.length = size ∧ ∃ y, r w (LT w.heap.size) (fun j => cs[j]?) y

theorem opens_int {P : Program} {T : TypeId} (hT : P.underlying T = some (.int .i64)) : Opens P T 1 eInt := by
  intro H enc w fuel cs x h _
  obtain ⟨n, rfl, _, hw⟩ := DataW.trod_int hT h
  exact ⟨rfl, n, rfl, hw⟩
theorem opens_bool {P : Program} {T : TypeId} (hT : P.underlying T = some .bool) : Opens P T 1 eBool := by
  intro H enc w fuel cs x h _
  obtain ⟨n, rfl, _⟩ := DataW.trod_bool hT h
  exact ⟨rfl, n, rfl⟩
theorem opens_byte {P : Program} {T : TypeId} (hT : P.underlying T = some (.int .u8)) : Opens P T 1 eByte := by
  intro H enc w fuel cs x h _
  obtain ⟨n, rfl, _, hw⟩ := DataW.trod_int hT h
  have hb : 0 ≤ n ∧ n ≤ 255 := by simpa [Lit.wf, IntKind.min, IntKind.max, IntKind.signed, IntKind.bits] using hw
  refine ⟨rfl, UInt8.ofNat n.toNat, ?_⟩
  have : ((UInt8.ofNat n.toNat).toNat : Int) = n := by
    obtain ⟨m, rfl⟩ := Int.eq_ofNat_of_zero_le hb.1
    rw [Int.toNat_natCast, UInt8.toNat_ofNat']; omega
  show some (Value.int .u8 n) = _
  rw [this]

theorem list_of {α : Type} (n : Nat) (p : Nat → α → Prop) (h : ∀ i, i < n → ∃ y, p i y) : ∃ ys : List α, ys.length = n ∧ ∀ i y, ys[i]? = some y → p i y := by
  induction n with
  | zero => exact ⟨[], rfl, fun i y h => by simp at h⟩
  | succ n ih =>
    obtain ⟨ys, hl, hy⟩ := ih fun i hi => h i (by omega)
    obtain ⟨y, hp⟩ := h n (by omega)
    refine ⟨ys ++ [y], by simp [hl], fun i z hz => ?_⟩
    rw [List.getElem?_append] at hz
    split at hz
    · exact hy i z hz
    · have : i - ys.length = 0 := by
        rcases Nat.eq_zero_or_pos (i - ys.length) with h0 | h0
        · exact h0
        · rw [List.getElem?_eq_none (by simp; omega)] at hz; cases hz
      rw [this] at hz
      simp at hz
      subst hz
      obtain rfl : i = n := by omega
      exact hp

theorem weightsAll_mem {H : Type} {P : Program} {e : TypeId} : ∀ {ds : List (DataW H)} {d : DataW H}, d ∈ ds → ∀ n ∈ d.weights P e, n ∈ DataW.weightsAll P e ds
  | d0 :: ds, d, hd, n, hn => by
    simp only [DataW.weightsAll, List.mem_append]
    rcases List.mem_cons.1 hd with rfl | hd
    · exact .inl hn
    · exact .inr (weightsAll_mem hd n hn)

theorem opens_slice {α : Type} {P : Program} {T E : TypeId} {size bytes : Nat} {r : ERd α} (s : Stable size r) (h0 : 0 < size) (hT : P.underlying T = some (.slice E)) (hE : Opens P E size r) (hc : P.cellsOf E = size) (hby : P.bytesOf E = bytes) : Opens P T 1 (eSl size bytes r) := by
  intro H enc w fuel cs x h hw
  rcases open_slice hT h with ⟨rfl, _⟩ | ⟨a, len, cap, m, n, D, Pl, rfl, _, hl, hm, hmm, hx, hi⟩
  · exact ⟨rfl, [], none, 0, 0, rfl, ⟨by simp, by omega, by unfold maxLen; omega⟩, Sl.nil⟩
  · have hlm : len ≤ m := by rw [hmm]; split <;> omega
    subst hx
    have hD : ∀ i, i < len → ∀ k ∈ (D i).weights P E, k ≤ reachBytes := by
      intro i hi k hk
      refine hw k ?_
      simp only [DataW.weights, hT, List.mem_cons, List.mem_append]
      exact .inr (.inl (weightsAll_mem (d := D i) (List.mem_map.2 ⟨i, List.mem_range.2 hi, rfl⟩) k hk))
    have hlen : len * bytes ≤ lim := by
      have h0 := hw ((((List.range len).map D).length + ((List.range (m - len)).map fun j => D (len + j)).length) * P.bytesOf E) (by simp [DataW.weights, hT])
      simp only [List.length_map, List.length_range, hby, reachBytes] at h0
      have : len * bytes ≤ (len + (m - len)) * bytes := Nat.mul_le_mul_right _ (by omega)
      unfold lim
      omega
    obtain ⟨ys, hyl, hys⟩ := list_of len (fun i y => r w (LT w.heap.size) (fun j => w.cell? (a.add (i * size + j))) y) fun i hilt => by
      obtain ⟨cs', hcs, ht⟩ := hi i (by omega)
      obtain ⟨_, hcl, hat⟩ := World.cells?_some hcs
      obtain ⟨hsz, y, hy⟩ := hE H enc w n cs' (D i, Pl i) ht (hD i hilt)
      refine ⟨y, s.mono (fun j u hj hu => ?_) hy⟩
      rw [← add_of_add, ← hc, hat j (by omega)]
      exact hu
    refine ⟨rfl, ys, some a, len, cap, rfl, ⟨hlen, hl, hm⟩, hyl, fun hn => ⟨a, rfl, ?_, hys⟩⟩
    obtain ⟨cs', hcs, ht⟩ := hi 0 (by omega)
    obtain ⟨_, hcl, hat⟩ := World.cells?_some hcs
    have h1 := hat 0 (by omega)
    rw [List.getElem?_eq_getElem (by omega)] at h1
    have := World.block_lt_of_cell? w _ h1
    rw [block_of_add, block_of_add] at this
    exact this
theorem openBytes : Opens Tryz.prog 22 1 eBlock := opens_slice sByte (by decide) Tryz.underlying22 (opens_byte Tryz.underlying5) (by kernel_rfl) (by kernel_rfl)
theorem openBlocks : Opens Tryz.prog 66 1 eBlocks := opens_slice wBlock (by decide) Tryz.underlying66 openBytes (by kernel_rfl) (by kernel_rfl)
/-- A plan, by value. -/
theorem openPlan {H : Type} {enc : TypeId × Value → H} {W : World} {r : Reach} {base : Nat} {v : Value} {d : DataW H} {p : List MemPlace} (hv : Value.okWide Tryz.prog W r base 26 v) (h : DataW.Trod enc Tryz.prog W 0 (fun _ => true) true 26 v d p) :
    ∃ B K : Int, v = .agg #[.int .i64 B, .int .i64 K] ∧ wfI B ∧ wfI K := by
  obtain ⟨c0, c1, y0, y1, m, rfl, _, _, hy0, hy1⟩ := open_agg2 Tryz.underlying26 (by kernel_rfl) (by kernel_rfl) hv h
  obtain ⟨a, e0, _, wa⟩ := DataW.trod_int Tryz.underlying3 hy0
  obtain ⟨b, e1, _, wb⟩ := DataW.trod_int Tryz.underlying3 hy1
  simp at e0 e1
  subst e0 e1
  exact ⟨a, b, rfl, wa, wb⟩
theorem openInts : Opens Tryz.prog 74 1 (eSl 1 8 eInt) := opens_slice sInt (by decide) Tryz.underlying74 (opens_int Tryz.underlying3) (by kernel_rfl) (by kernel_rfl)
end Go.Proofs.YtbincgbgeccccaaGreatDoor
