/- Contracts of package sum and of the reference's sums. No condition. -/
import Derived.Test.YtbincgbgeccccaaGreatDoorOwn
set_option linter.unusedSimpArgs false
set_option linter.unusedVariables false
namespace Go.Proofs.YtbincgbgeccccaaGreatDoor
open Go.RowKit

def sumCheckFrom (n0 : Nat) : List (List UInt8) → Int
  | [] => 0
  | b :: r => if b.length = 0 ∨ 16 < b.length then 2 else if b.length ≠ n0 then 4 else sumCheckFrom n0 r
def sumCheck (ls : List (List UInt8)) : Int := sumCheckFrom (ls.headD []).length ls

def zx (a b : List UInt8) : List UInt8 := List.zipWith (· ^^^ ·) a b
def zeros (n : Nat) : List UInt8 := List.replicate n 0
def xorAll (n : Nat) (ls : List (List UInt8)) : List UInt8 := ls.foldl zx (zeros n)
def sumAdd (ls : List (List UInt8)) : List UInt8 × Int :=
  if sumCheck ls ≠ 0 then ([], sumCheck ls) else if ls.length = 0 then ([], 8) else (xorAll (ls.headD []).length ls, 0)

theorem length_zx {a b : List UInt8} (h : a.length = b.length) : (zx a b).length = a.length := by simp [zx, h]
theorem sumCheckFrom_ok {n0 : Nat} : ∀ {ls : List (List UInt8)}, sumCheckFrom n0 ls = 0 → ∀ l ∈ ls, l.length = n0 ∧ 1 ≤ n0 ∧ n0 ≤ 16
  | b :: r, h, l, hl => by
    rw [sumCheckFrom] at h
    split at h
    · cases h
    · split at h
      · cases h
      · rcases List.mem_cons.1 hl with rfl | hl
        · omega
        · exact sumCheckFrom_ok h l hl
theorem sumCheckFrom_of {n0 : Nat} (h1 : 1 ≤ n0) (h2 : n0 ≤ 16) : ∀ {ls : List (List UInt8)}, (∀ l ∈ ls, l.length = n0) → sumCheckFrom n0 ls = 0
  | [], _ => rfl
  | b :: r, h => by
    have hb := h b (by simp)
    rw [sumCheckFrom, if_neg (by omega), if_neg (by omega)]
    exact sumCheckFrom_of h1 h2 fun l hl => h l (by simp [hl])
theorem length_xorAll {n : Nat} : ∀ {ls : List (List UInt8)} {acc : List UInt8}, (∀ l ∈ ls, l.length = n) → acc.length = n → (ls.foldl zx acc).length = n
  | [], _, _, h => h
  | b :: r, acc, h, ha => length_xorAll (ls := r) (fun l hl => h l (by simp [hl])) (by rw [length_zx (by rw [ha, h b (by simp)])]; exact ha)

/-- A sum, done as far as place i. -/
def xorTo (acc b : List UInt8) (i : Nat) : List UInt8 := (zx acc b).take i ++ acc.drop i
theorem xorTo_zero (acc b : List UInt8) : xorTo acc b 0 = acc := by simp [xorTo]
theorem xorTo_all {acc b : List UInt8} {n : Nat} (ha : acc.length = n) (hb : b.length = n) : xorTo acc b n = zx acc b := by
  rw [xorTo, List.drop_eq_nil_of_le (by omega), List.take_of_length_le (by rw [length_zx (by omega)]; omega), List.append_nil]
theorem length_xorTo {acc b : List UInt8} {i : Nat} (h : acc.length = b.length) (hi : i ≤ acc.length) : (xorTo acc b i).length = acc.length := by
  simp [xorTo, length_zx h]; omega
theorem xorTo_get {acc b : List UInt8} {i : Nat} {x : UInt8} (h : acc.length = b.length) (hx : acc[i]? = some x) : (xorTo acc b i)[i]? = some x := by
  have hi := (List.getElem?_eq_some_iff.1 hx).1
  rw [xorTo, List.getElem?_append_right (by rw [List.length_take]; omega), List.length_take, length_zx h, Nat.min_eq_left (by omega), Nat.sub_self, List.getElem?_drop]
  simpa using hx
theorem xorTo_succ {acc b : List UInt8} {i : Nat} {x y : UInt8} (h : acc.length = b.length) (hx : acc[i]? = some x) (hy : b[i]? = some y) : (xorTo acc b i).set i (x ^^^ y) = xorTo acc b (i + 1) := by
  have hi := (List.getElem?_eq_some_iff.1 hx).1
  have hz : (zx acc b)[i]? = some (x ^^^ y) := by simp [zx, List.getElem?_zipWith, hx, hy]
  have hl : ((zx acc b).take i).length = i := by rw [List.length_take, length_zx h]; omega
  rw [xorTo, xorTo, take_snoc' hz, drop_cons hx, List.set_append_right _ _ (by omega), hl, Nat.sub_self, List.set_cons_zero, List.append_assoc]
  rfl

/-- From one number to another one. -/
def inR (n a b : Int) : Bool := decide (a ≤ n) && decide (n ≤ b)
theorem inR_t {n a b : Int} (h : a ≤ n ∧ n ≤ b) : inR n a b = true := by simp [inR, h]
theorem inR_f {n a b : Int} (h : ¬ (a ≤ n ∧ n ≤ b)) : inR n a b = false := by
  simp only [inR, Bool.and_eq_false_iff, decide_eq_false_iff_not]; omega
theorem in_any (w : World) (n a b : Int) : Calls Tryz.prog 62 #[.int .i64 n, .int .i64 a, .int .i64 b] w fun e w' => e = .returned (.bool (inR n a b)) ∧ w = w' := by
  by_cases h1 : a ≤ n
  · by_cases h2 : n ≤ b
    · have HR := Lib.hid (inR_t ⟨h1, h2⟩)
      go_enter Tryz.func62, Tryz.ntmps62
      go_wp2
      go_ret
      exact ⟨retB (by rw [HR.out]), rfl⟩
    · have HR := Lib.hid (inR_f (n := n) (a := a) (b := b) (by omega))
      go_enter Tryz.func62, Tryz.ntmps62
      go_wp2
      go_ret
      exact ⟨retB (by rw [HR.out]), rfl⟩
  · have HR := Lib.hid (inR_f (n := n) (a := a) (b := b) (by omega))
    go_enter Tryz.func62, Tryz.ntmps62
    go_wp2
    go_ret
    exact ⟨retB (by rw [HR.out]), rfl⟩

end Go.Proofs.YtbincgbgeccccaaGreatDoor
