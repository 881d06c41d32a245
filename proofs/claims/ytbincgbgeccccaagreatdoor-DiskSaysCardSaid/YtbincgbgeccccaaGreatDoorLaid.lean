/- The library's variables as the row lists them: what the list gives the walks; a world that lays them. No condition. -/
import Derived.Test.YtbincgbgeccccaaGreatDoorCards
import Derived.Test.YtbincgbgeccccaaGreatDoorTie
import Derived.Test.YtbincgbgeccccaaGreatDoorStr
import Derived.Deep.DeepHandedRow
import Derived.Deep.DeepWitnessRowRef
import Derived.Stop.LaidErr
import Derived.LaidLaws
import Derived.Lib.LaidTab
set_option linter.unusedSimpArgs false
set_option linter.unusedVariables false
set_option maxRecDepth 100000
namespace Go.Proofs.YtbincgbgeccccaaGreatDoor
open Go.RowKit

theorem starErr : "*" ++ "errors.errorString" = "*errors.errorString" := by decide
theorem rowErr (u : TypeId) (h : Tryz.prog.typeName? 3 u = some "*errors.errorString") : u = 145 :=
  typeName_ptr_named (nm := "errors.errorString") (by rw [starErr]; kernel_rfl) (by kernel_rfl) (by decide) u (by rw [starErr]; exact h)
abbrev laidList : List (String × DataW Unit) := [("math/bits.deBruijn32tab", Rows.laid_math_bits_deBruijn32tab), ("math/bits.deBruijn64tab", Rows.laid_math_bits_deBruijn64tab), ("internal/strconv.uint64pow10", Rows.laid_internal_strconv_uint64pow10), ("unicode/utf8.acceptRanges", Rows.laid_unicode_utf8_acceptRanges), ("strconv.ErrRange", Rows.laid_strconv_ErrRange), ("strconv.ErrSyntax", Rows.laid_strconv_ErrSyntax), ("unicode/utf8.first", Rows.laid_unicode_utf8_first)]
/-- What the list gives. -/
theorem vars_of {W : World} (hL : laidMet Tryz.prog laidList W) (hsh : W.ShapedOpen Tryz.prog) : Vars W := by
  obtain ⟨a1, s1, hv1, -, -, -⟩ := laid_sentinel (g := 3) hL.tail.tail.tail.tail (by kernel_rfl) (by kernel_rfl) Tryz.underlying85 rowErr Tryz.underlying145 Tryz.underlying147 rfl rfl Tryz.underlying9 (by kernel_rfl) (by kernel_rfl)
  obtain ⟨a0, s0, hv0, -, -, -⟩ := laid_sentinel (g := 2) hL.tail.tail.tail.tail.tail (by kernel_rfl) (by kernel_rfl) Tryz.underlying85 rowErr Tryz.underlying145 Tryz.underlying147 rfl rfl Tryz.underlying9 (by kernel_rfl) (by kernel_rfl)
  obtain ⟨m, hm⟩ := Tryz.laysM146.s1_3 W hsh
  exact ⟨Lib.tabIs_of_head (zs := Lib.pow10Tab) gPow (by kernel_rfl) Tryz.underlying132 Tryz.underlying113 (by kernel_rfl) (by kernel_rfl) hL.tail.tail, ⟨_, _, hv0⟩, ⟨_, _, hv1⟩, ⟨m, hm⟩⟩

def litCells : DataW Unit → List Value
  | .agg ds => ds.flatMap fun
    | .agg es => es.flatMap fun
      | .lit (.int k n) => [.int k n]
      | _ => []
    | .lit (.int k n) => [.int k n]
    | _ => []
  | _ => []
noncomputable def lowN : Nat := (World.holding Tryz.prog default ⟨#[], #[], []⟩).heap.size
/-- The settled world, two blocks more, the variables laid. -/
noncomputable def laidWorld (os : Os) : World :=
  let w0 := World.holding Tryz.prog os ⟨#[.cells #[.string ⟨#[105, 110, 118, 97, 108, 105, 100, 32, 115, 121, 110, 116, 97, 120]⟩] 147, .cells #[.string ⟨#[118, 97, 108, 117, 101, 32, 111, 117, 116, 32, 111, 102, 32, 114, 97, 110, 103, 101]⟩] 147], #[], []⟩
  let put (h : Array Obj) (g : Nat) (cs : Array Value) : Array Obj := h.modify g fun
    | .cells _ t frozen => .cells cs t frozen
    | o => o
  let h0 := put (put w0.heap 2 #[.iface 145 (.pointer (some ⟨lowN, 0, none⟩))]) 3 #[.iface 145 (.pointer (some ⟨lowN + 1, 0, none⟩))]
  let h1 := put h0 1 (litCells Rows.laid_internal_strconv_uint64pow10).toArray
  let h2 := put h1 4 (litCells Rows.laid_unicode_utf8_first).toArray
  let h3 := put h2 5 (litCells Rows.laid_unicode_utf8_acceptRanges).toArray
  let h4 := put h3 6 (litCells Rows.laid_math_bits_deBruijn32tab).toArray
  let h5 := put h4 7 (litCells Rows.laid_math_bits_deBruijn64tab).toArray
  { w0 with heap := h5 }
theorem laid_met (os : Os) (args : Array Value) : laidMet Tryz.prog laidList ((laidWorld os).forCall (fun _ _ => 0) ⟨#[], args, []⟩).memory :=
  laidMet_of_run' 8 (by kernel_rfl) (by kernel_rfl)
end Go.Proofs.YtbincgbgeccccaaGreatDoor
