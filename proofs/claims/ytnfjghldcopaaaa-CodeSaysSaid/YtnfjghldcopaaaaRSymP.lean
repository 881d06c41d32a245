/- Plain laws of the reference's symbols. No condition; no program in sight. -/
import Derived.Test.YtnfjghldcopaaaaRPickP
import Derived.Test.YtnfjghldcopaaaaCodeP
set_option linter.unusedSimpArgs false
set_option linter.unusedVariables false
namespace Go.Proofs.Ytnfjghldcopaaaa

/-- Block by block, added on. -/
def symTo (K : Nat) (bl : List (List UInt8)) (L : List Int) : List UInt8 := xorAll K (L.map fun k => bl.getD k.toNat [])
theorem sel_idx {bl : List (List UInt8)} {X : List Bool} (h : X.length = bl.length) : (selIdx X).map (fun k => bl.getD k.toNat []) = sel X bl := by
  have hz : X.zip bl = (List.range X.length).map fun k => (X.getD k false, bl.getD k []) := by
    apply List.ext_getElem?
    intro k
    by_cases hk : k < X.length
    · rw [List.getElem?_map, List.getElem?_range hk, show (X.zip bl)[k]? = some (X[k], bl[k]'(h ▸ hk)) from List.getElem?_zip_eq_some.2 ⟨List.getElem?_eq_getElem hk, List.getElem?_eq_getElem (h ▸ hk)⟩]
      simp [List.getD_eq_getElem?_getD, List.getElem?_eq_getElem hk, List.getElem?_eq_getElem (h ▸ hk : k < bl.length)]
    · rw [List.getElem?_eq_none (by simp; omega), List.getElem?_eq_none (by simp; omega)]
  unfold sel selIdx
  rw [hz, List.filter_map, List.map_map, List.map_map]
  rfl
theorem zx_zeros {K : Nat} {a : List UInt8} (h : a.length = K) : zx (zeros K) a = a := by
  apply List.ext_getElem (by simp [zx, zeros, h])
  intro i h1 h2
  simp [zx, zeros]
theorem xorAll_two {K : Nat} {a b : List UInt8} (h : a.length = K) : xorAll K [a, b] = zx a b := by
  unfold xorAll
  simp only [List.foldl_cons, List.foldl_nil, zx_zeros h]
theorem symTo_nil (K : Nat) (bl : List (List UInt8)) : symTo K bl [] = zeros K := rfl
theorem length_symTo {K : Nat} {bl : List (List UInt8)} {L : List Int} (h : ∀ k ∈ L, (bl.getD k.toNat []).length = K) : (symTo K bl L).length = K :=
  length_xorAll (fun l hl => by obtain ⟨k, hk, rfl⟩ := List.mem_map.1 hl; exact h k hk) (by simp [zeros])
theorem symTo_snoc {K : Nat} {bl : List (List UInt8)} {L : List Int} {k : Int} (h : ∀ k ∈ L, (bl.getD k.toNat []).length = K) : xorAll K [symTo K bl L, bl.getD k.toNat []] = symTo K bl (L ++ [k]) := by
  rw [xorAll_two (length_symTo h)]
  unfold symTo xorAll
  rw [List.map_append, List.foldl_append]; rfl
end Go.Proofs.Ytnfjghldcopaaaa
