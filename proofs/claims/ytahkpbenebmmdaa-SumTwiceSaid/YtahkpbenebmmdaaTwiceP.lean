/- Plain laws: a sum turned, doubled, and with one taken out. No condition; no program in sight. -/
import Derived.Test.YtahkpbenebmmdaaAddP
set_option linter.unusedSimpArgs false
set_option linter.unusedVariables false
namespace Go.Proofs.Ytahkpbenebmmdaa
open Go.RowKit

theorem zx_right (a x y : List UInt8) : zx (zx a x) y = zx (zx a y) x := by
  apply List.ext_getElem?
  intro i
  simp only [zx_get]
  cases a[i]? <;> cases x[i]? <;> cases y[i]? <;> simp
  ac_rfl
theorem zx_twice (a x : List UInt8) (h : a.length = x.length) : zx (zx a x) x = a := by
  apply List.ext_getElem?
  intro i
  simp only [zx_get]
  by_cases hi : i < a.length
  · rw [List.getElem?_eq_getElem hi, List.getElem?_eq_getElem (by omega)]; simp [UInt8.xor_assoc]
  · rw [List.getElem?_eq_none (by omega), List.getElem?_eq_none (by omega)]
theorem xorAll_perm {n : Nat} {X Y : List (List UInt8)} (h : X.Perm Y) : xorAll n X = xorAll n Y := by
  unfold xorAll
  exact h.foldl_eq' (fun x _ y _ z => zx_right z x y) _
theorem xorAll_reverse (n : Nat) (X : List (List UInt8)) : xorAll n X.reverse = xorAll n X := xorAll_perm (List.reverse_perm X)
theorem xorAll_erase {n k : Nat} {X : List (List UInt8)} {x : List UInt8} (hx : X[k]? = some x) : zx (xorAll n (X.eraseIdx k)) x = xorAll n X := by
  obtain ⟨hk, rfl⟩ := List.getElem?_eq_some_iff.1 hx
  have h1 : (X.eraseIdx k ++ [X[k]]).Perm X := by
    have e : X = X.take k ++ X[k] :: X.drop (k + 1) := by rw [List.getElem_cons_drop, List.take_append_drop]
    have h2 : (X.take k ++ X[k] :: X.drop (k + 1)).Perm (X[k] :: (X.take k ++ X.drop (k + 1))) := List.perm_middle
    rw [← e] at h2
    rw [List.eraseIdx_eq_take_drop_succ]
    exact List.perm_append_comm.trans h2.symm
  rw [← xorAll_perm h1]
  simp [xorAll, List.foldl_append]
theorem sumAdd_all {ls : List (List UInt8)} {k : Nat} (hl : ∀ l ∈ ls, l.length = k) (h0 : ls ≠ []) (h3 : 1 ≤ k) (h4 : k ≤ 16) : sumAdd ls = (xorAll k ls, 0) := by
  have hh : (ls.headD []).length = k := by
    cases ls with
    | nil => exact absurd rfl h0
    | cons l r => exact hl l (by simp)
  have hc : sumCheck ls = 0 := by
    unfold sumCheck
    rw [hh]
    exact sumCheckFrom_of h3 h4 hl
  unfold sumAdd
  rw [if_neg (by simp [hc]), if_neg (by cases ls <;> simp_all), hh]

/-- The law, in plain words. -/
theorem sumTwice_plain {ls : List (List UInt8)} {k : Nat} {x s : List UInt8} (h : sumAdd ls = (s, 0)) (hx : ls[k]? = some x) :
    sumAdd [s, x, x] = (s, 0) ∧ sumAdd ls.reverse = (s, 0) ∧ (ls.eraseIdx k ≠ [] → ∃ u, sumAdd (ls.eraseIdx k) = (u, 0) ∧ sumAdd [u, x] = (s, 0)) ∧ (ls.eraseIdx k = [] → x = s) ∧ s.length = x.length ∧ 1 ≤ s.length ∧ s.length ≤ 16 := by
  have hmem := List.mem_of_getElem? hx
  have hc : sumCheck ls = 0 := by
    by_cases hc : sumCheck ls = 0
    · exact hc
    · rw [sumAdd, if_pos hc] at h; exact absurd (Prod.ext_iff.1 h).2 hc
  obtain ⟨n, hn⟩ : ∃ n, n = (ls.headD []).length := ⟨_, rfl⟩
  have hall : ∀ l ∈ ls, l.length = n := fun l hl => by rw [hn]; exact (sumCheckFrom_ok hc l hl).1
  have hb : 1 ≤ n ∧ n ≤ 16 := by have := sumCheckFrom_ok hc x hmem; omega
  have hne : ls ≠ [] := by intro e; simp [e] at hmem
  rw [sumAdd_all hall hne hb.1 hb.2] at h
  obtain rfl : xorAll n ls = s := (Prod.ext_iff.1 h).1
  have hs : (xorAll n ls).length = n := length_xorAll hall (by simp [zeros])
  have hxl := hall x hmem
  refine ⟨?_, ?_, ?_, ?_, by omega, by omega, by omega⟩
  · rw [sumAdd_all (k := n) (by intro l hl; simp at hl; rcases hl with rfl | rfl <;> assumption) (by simp) hb.1 hb.2]
    refine Prod.ext ?_ rfl
    show xorAll n [xorAll n ls, x, x] = xorAll n ls
    have : zx (zeros n) (xorAll n ls) = xorAll n ls := by have := zx_zero_left (xorAll n ls); rw [hs] at this; exact this
    rw [show xorAll n [xorAll n ls, x, x] = zx (zx (zx (zeros n) (xorAll n ls)) x) x from rfl, this, zx_twice _ _ (by omega)]
  · rw [sumAdd_all (k := n) (fun l hl => hall l (by simpa using hl)) (by simpa using hne) hb.1 hb.2, xorAll_reverse]
  · intro he
    have hall2 : ∀ l ∈ ls.eraseIdx k, l.length = n := fun l hl => hall l (List.mem_of_mem_eraseIdx hl)
    have hu : (xorAll n (ls.eraseIdx k)).length = n := length_xorAll hall2 (by simp [zeros])
    exact ⟨_, sumAdd_all hall2 he hb.1 hb.2, by rw [sumAdd_two hu hxl hb.1 hb.2, xorAll_erase hx]⟩
  · intro he
    have := xorAll_erase (n := n) hx
    rw [he] at this
    rw [← this]
    have := zx_zero_left x
    rw [hxl] at this
    exact this.symm
end Go.Proofs.Ytahkpbenebmmdaa
