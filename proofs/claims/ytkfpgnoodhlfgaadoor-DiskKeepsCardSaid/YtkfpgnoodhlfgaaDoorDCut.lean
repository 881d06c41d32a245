/- strings.Cut at a byte. Condition: the library's variables are laid. -/
import Derived.Test.YtkfpgnoodhlfgaaDoorStr
set_option linter.unusedSimpArgs false
set_option linter.unusedVariables false
namespace Go.Proofs.YtkfpgnoodhlfgaaDoor
open Go.RowKit

theorem cut_any (w : World) (v : Vars w) (c : UInt8) (l : List UInt8) (hl : l.length ≤ 1000000) :
    Calls Tryd.prog 72 #[sV l, sV [c]] w fun e w' => e = .returned (.tuple #[sV (Lib.cut l [c]).1, sV (Lib.cut l [c]).2.1, .bool (Lib.cut l [c]).2.2]) ∧ Fr w w' := by
  obtain ⟨m, hm⟩ := v.mx
  have hs := sV_size l
  refine (Tryd.strings_Cut ⟨l.toArray⟩ ⟨#[c]⟩ m w (by omega) hm).mono ?_
  rintro e w' ⟨rfl, n, rfl⟩
  exact ⟨rfl, frDrewN _ _⟩
/-- What it cuts. -/
theorem cut_cases (c : UInt8) (l : List UInt8) : (c ∉ l ∧ Lib.cut l [c] = (l, [], false) ∧ pieces c l = [l]) ∨ ∃ a b, l = a ++ c :: b ∧ c ∉ a ∧ Lib.cut l [c] = (a, b, true) ∧ pieces c l = a :: pieces c b := by
  have hi := Lib.index_one l c
  have hge := Lib.indexByte_ge l c
  by_cases hm : Lib.indexByte l c = -1
  · have h1 := indexByte_miss hm
    refine .inl ⟨h1, ?_, pieces_miss c l h1⟩
    unfold Lib.cut
    rw [hi, hm, if_neg (by omega)]
  · obtain ⟨o, ho⟩ := Int.eq_ofNat_of_zero_le (show 0 ≤ Lib.indexByte l c by omega)
    obtain ⟨h2, h3, h4⟩ := indexByte_split ho
    refine .inr ⟨l.take o, l.drop (o + 1), h4, h3, ?_, ?_⟩
    · unfold Lib.cut
      rw [hi, ho, if_pos (by omega), Int.toNat_natCast]; rfl
    · conv => lhs; rw [h4, pieces_hit c _ _ h3]
end Go.Proofs.YtkfpgnoodhlfgaaDoor
