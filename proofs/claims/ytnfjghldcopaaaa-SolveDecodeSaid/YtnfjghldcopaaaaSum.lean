/- Contracts of package sum and of the reference's sums. No condition. -/
import Derived.Test.YtnfjghldcopaaaaOwn
set_option linter.unusedSimpArgs false
set_option linter.unusedVariables false
namespace Go.Proofs.Ytnfjghldcopaaaa
open Go.RowKit

def sumCheckFrom (n0 : Nat) : List (List UInt8) → Int
  | [] => 0
  | b :: r => if b.length = 0 ∨ 16 < b.length then 2 else if b.length ≠ n0 then 4 else sumCheckFrom n0 r
def sumCheck (ls : List (List UInt8)) : Int := sumCheckFrom (ls.headD []).length ls

set_option maxHeartbeats 400000 in
theorem sumCheck_any (w : World) (S : Nat → Prop) (A : Option Addr) (n c : Nat) (ls : List (List UInt8)) (h : Sl 1 eBlock w S A n ls) (hm : n ≤ lim) :
    Calls Try.prog 94 #[.slice A n c] w fun e w' => e = .returned (.int .i64 (sumCheck ls)) ∧ w = w' := by
  unfold lim at hm
  have H := Lib.hid h
  clear h
  go_enter Try.func94, Try.ntmps94
  go_wp2
  go_loop [7] (fun i => ∃ k : Nat, k ≤ n ∧ i = .int .i64 k ∧ Hid (sumCheck ls = sumCheckFrom (ls.headD []).length (ls.drop k))) (fun i => n - (intOf i).toNat)
  case atStart => exact ⟨0, Nat.zero_le _, rfl, rfl⟩
  case round =>
    obtain ⟨k, hk, rfl, HS⟩ := hrel
    by_cases hlt : k < n
    · obtain ⟨ad, rfl, hE⟩ := H.out.els (by omega)
      obtain ⟨A', n', c', l, hl, hc, hm', hs⟩ := hE.block hlt
      obtain ⟨A0, n0, c0, l0, hl0, hc0, hm0, hs0⟩ := hE.block0 (by omega)
      have hd0 : l0 = ls.headD [] := by rw [List.headD_eq_head?_getD, hl0]; rfl
      have HS' : Hid (sumCheck ls = if n' = 0 ∨ 16 < n' then 2 else if n' ≠ n0 then 4 else sumCheckFrom n0 (ls.drop (k + 1))) := by
        have h1 := HS.out
        rw [drop_cons hl, sumCheckFrom, hs.1, ← hd0, hs0.1] at h1
        exact h1
      have HN : Hid (n0 = (ls.headD []).length) := by rw [← hd0]; exact hs0.1.symm
      clear HS hl hl0 hd0
      go_wp2
      all_goals (try simp only [beq_iff_eq, bne_iff_ne, beq_eq_false_iff_ne, bne_eq_false_iff_eq, ne_eq, Decidable.not_not, Int.natCast_inj, Bool.or_eq_true, Bool.and_eq_true, Bool.or_eq_false_iff, Bool.and_eq_false_iff, Bool.not_eq_true', Bool.not_eq_false', decide_eq_true_eq, decide_eq_false_iff_not, Bool.not_eq_true, Bool.not_eq_false] at *)
      iterate 3
        · go_ret
          exact ⟨retI (by (rw [HS'.out]; (repeat' split) <;> first | rfl | (exfalso; omega))), rfl⟩
      · go_round
        case rel => exact ⟨k + 1, by omega, by go_num, by rw [Hid, ← HN.out]; (rw [HS'.out]; (repeat' split) <;> first | rfl | (exfalso; omega))⟩
        case measure => simp [intOf]; omega
    · have hf : Hid (sumCheck ls = 0) := by rw [Hid, HS.out, List.drop_eq_nil_of_le (by have := H.out.1; omega)]; rfl
      go_wp2
      go_ret
      exact ⟨retI hf.out.symm, rfl⟩

def zx (a b : List UInt8) : List UInt8 := List.zipWith (· ^^^ ·) a b
def zeros (n : Nat) : List UInt8 := List.replicate n 0
def xorAll (n : Nat) (ls : List (List UInt8)) : List UInt8 := ls.foldl zx (zeros n)
def sumAdd (ls : List (List UInt8)) : List UInt8 × Int :=
  if sumCheck ls ≠ 0 then ([], sumCheck ls) else if ls.length = 0 then ([], 8) else (xorAll (ls.headD []).length ls, 0)

theorem length_zx {a b : List UInt8} (h : a.length = b.length) : (zx a b).length = a.length := by simp [zx, h]
theorem sumCheckFrom_ok {n0 : Nat} : ∀ {ls : List (List UInt8)}, sumCheckFrom n0 ls = 0 → ∀ l ∈ ls, l.length = n0 ∧ 1 ≤ n0 ∧ n0 ≤ 16
  | b :: r, h, l, hl => by
    rw [sumCheckFrom] at h
    split at h
    · cases h
    · split at h
      · cases h
      · rcases List.mem_cons.1 hl with rfl | hl
        · omega
        · exact sumCheckFrom_ok h l hl
theorem sumCheckFrom_of {n0 : Nat} (h1 : 1 ≤ n0) (h2 : n0 ≤ 16) : ∀ {ls : List (List UInt8)}, (∀ l ∈ ls, l.length = n0) → sumCheckFrom n0 ls = 0
  | [], _ => rfl
  | b :: r, h => by
    have hb := h b (by simp)
    rw [sumCheckFrom, if_neg (by omega), if_neg (by omega)]
    exact sumCheckFrom_of h1 h2 fun l hl => h l (by simp [hl])
theorem length_xorAll {n : Nat} : ∀ {ls : List (List UInt8)} {acc : List UInt8}, (∀ l ∈ ls, l.length = n) → acc.length = n → (ls.foldl zx acc).length = n
  | [], _, _, h => h
  | b :: r, acc, h, ha => length_xorAll (ls := r) (fun l hl => h l (by simp [hl])) (by rw [length_zx (by rw [ha, h b (by simp)])]; exact ha)

/-- A sum, done as far as place i. -/
def xorTo (acc b : List UInt8) (i : Nat) : List UInt8 := (zx acc b).take i ++ acc.drop i
theorem xorTo_zero (acc b : List UInt8) : xorTo acc b 0 = acc := by simp [xorTo]
theorem xorTo_all {acc b : List UInt8} {n : Nat} (ha : acc.length = n) (hb : b.length = n) : xorTo acc b n = zx acc b := by
  rw [xorTo, List.drop_eq_nil_of_le (by omega), List.take_of_length_le (by rw [length_zx (by omega)]; omega), List.append_nil]
theorem length_xorTo {acc b : List UInt8} {i : Nat} (h : acc.length = b.length) (hi : i ≤ acc.length) : (xorTo acc b i).length = acc.length := by
  simp [xorTo, length_zx h]; omega
theorem xorTo_get {acc b : List UInt8} {i : Nat} {x : UInt8} (h : acc.length = b.length) (hx : acc[i]? = some x) : (xorTo acc b i)[i]? = some x := by
  have hi := (List.getElem?_eq_some_iff.1 hx).1
  rw [xorTo, List.getElem?_append_right (by rw [List.length_take]; omega), List.length_take, length_zx h, Nat.min_eq_left (by omega), Nat.sub_self, List.getElem?_drop]
  simpa using hx
theorem xorTo_succ {acc b : List UInt8} {i : Nat} {x y : UInt8} (h : acc.length = b.length) (hx : acc[i]? = some x) (hy : b[i]? = some y) : (xorTo acc b i).set i (x ^^^ y) = xorTo acc b (i + 1) := by
  have hi := (List.getElem?_eq_some_iff.1 hx).1
  have hz : (zx acc b)[i]? = some (x ^^^ y) := by simp [zx, List.getElem?_zipWith, hx, hy]
  have hl : ((zx acc b).take i).length = i := by rw [List.length_take, length_zx h]; omega
  rw [xorTo, xorTo, take_snoc' hz, drop_cons hx, List.set_append_right _ _ (by omega), hl, Nat.sub_self, List.set_cons_zero, List.append_assoc]
  rfl

set_option maxHeartbeats 1000000 in
theorem sumAdd_ok (w : World) (A : Option Addr) (n c n0 : Nat) (ls : List (List UInt8)) (h : Sl 1 eBlock w (LT w.heap.size) A n ls) (hm : n ≤ lim) (hc : sumCheck ls = 0) (hn : 0 < n) (hn0 : n0 = (ls.headD []).length) :
    Calls Try.prog 76 #[.slice A n c] w fun e w' => e = .returned (.tuple #[.slice (some ⟨w.heap.size, 0, none⟩) n0 n0, .int .i64 0]) ∧ Sl 1 eByte w' (NW w.heap.size w'.heap.size) (some ⟨w.heap.size, 0, none⟩) n0 (xorAll n0 ls) ∧ Fr w w' := by
  have hlen : Hid (∀ l ∈ ls, l.length = n0) := fun l hl => by rw [hn0]; exact (sumCheckFrom_ok hc l hl).1
  have hb : 1 ≤ n0 ∧ n0 ≤ 16 := by
    have := h.1
    cases ls with
    | nil => simp at this; omega
    | cons l r =>
      have := sumCheckFrom_ok hc l (by simp)
      simp at hn0 this
      omega
  have HC := Lib.hid hc
  have HN0 := Lib.hid hn0
  have H := Lib.hid h
  have SC := fun W => sumCheck_any W
  have hck : (sumCheck ls != 0) = false := by rw [hc]; rfl
  obtain ⟨hb1, hb2⟩ := hb
  have hne : ((n : Int) == 0) = false := by rw [beq_eq_false_iff_ne]; omega
  obtain ⟨ad, rfl, hE⟩ := h.els hn
  obtain ⟨A0, n0', c0, l0, hl0, hc0, hm0, hs0⟩ := hE.block0 hn
  obtain rfl : n0' = n0 := by rw [hn0, ← hs0.1, List.headD_eq_head?_getD, hl0]; rfl
  have hmk := run_make_ca (P := Try.prog) bV 0 27 5 1 Try.underlying27 infoByte rfl .i64 .i64 n0' (by omega) (by omega)
  clear hn0 h hc hs0 hm0 hl0
  have hm1 := hm
  unfold lim at hm1
  go_enter Try.func76, Try.ntmps76
  go_wp2_with (go_at_call 94; refine (SC _ _ _ _ _ _ H.out hm).mono ?_; rintro e w' ⟨rfl, rfl⟩)
  go_loopw [25] (fun i wr => ∃ (k : Nat) (acc : List UInt8), k ≤ n ∧ i = .int .i64 k ∧ wr.heap[w.heap.size]? = some (.cells (ca bV acc) 5 (0, 0)) ∧ Hid (acc = xorAll n0' (ls.take k)) ∧ Below w.heap.size w wr) (fun i _ => n - (intOf i).toNat)
  case atStart => exact ⟨0, zeros n0', Nat.zero_le _, rfl, heap_new rfl, rfl, (Below.refl _ _).alloc (Nat.le_refl _) _⟩
  case round =>
    obtain ⟨k, acc, hk, rfl, HA, HX, HB⟩ := hrel
    by_cases hlt : k < n
    · obtain ⟨A', n', c', l, hl, hcl, hm', hs⟩ := hE.block hlt
      have hla : Hid (acc.length = n0') := by rw [Hid, HX.out]; exact length_xorAll (fun l hl => hlen.out l (List.mem_of_mem_take hl)) (by simp [zeros])
      have hll : Hid (l.length = n0') := hlen.out l (List.mem_of_getElem? hl)
      obtain rfl : n' = n0' := by rw [← hs.1]; exact hll.out
      have hcw : wr.cell? (ad.add k) = some (.slice A' n' c') := (HB.cell (p := ad.add k) (by rw [block_of_add]; exact hE.2.1)).trans hcl
      obtain ⟨adb, rfl, hbE⟩ := hs.els (by omega)
      have HL := Lib.hid hl
      have hsB := hbE.2.1
      clear hl hs hcl
      obtain ⟨wo, rfl⟩ : ∃ wo : World, wo = wr := ⟨_, rfl⟩
      go_wp2_with fail
      go_loopw [31] (fun j wr => ∃ (i : Nat), i ≤ n' ∧ j = .int .i64 i ∧ wr.heap[w.heap.size]? = some (.cells (ca bV (xorTo acc l i)) 5 (0, 0)) ∧ Below w.heap.size w wr) (fun j _ => n' - (intOf j).toNat)
      case atStart => exact ⟨0, Nat.zero_le _, rfl, by rw [xorTo_zero]; exact HA, HB⟩
      case round =>
        obtain ⟨i, hi, rfl, HA', HB'⟩ := hrel
        by_cases hlt' : i < n'
        · obtain ⟨y, hy, hcy⟩ := hbE.byte hlt'
          have hcy' : wr.cell? (adb.add i) = some (.int .u8 (y.toNat : Int)) := (HB'.cell (p := adb.add i) (by rw [block_of_add]; exact hsB)).trans hcy
          have hx : acc[i]? = some (acc[i]'(by rw [hla.out]; exact hlt')) := List.getElem?_eq_getElem _
          obtain ⟨x, hx⟩ : ∃ x, acc[i]? = some x := ⟨_, hx⟩
          have hal : acc.length = l.length := by rw [hla.out, hll.out]
          have hcx : wr.cell? ⟨w.heap.size, i, none⟩ = some (.int .u8 (x.toNat : Int)) := ca_cell (en := bV) HA' (xorTo_get hal hx)
          have hfx : wr.frozen? ⟨w.heap.size, i, none⟩ = false := ca_free HA'
          have hxor := u8_xor_byte x y
          have R : Hid ((wr.setCell ⟨w.heap.size, i, none⟩ (.int .u8 ((x ^^^ y).toNat : Int))).heap[w.heap.size]? = some (.cells (ca bV (xorTo acc l (i + 1))) 5 (0, 0))) := by
            rw [← xorTo_succ hal hx hy]; exact ca_set (en := bV) HA'
          clear hx hy hal hcy HA'
          go_wp2
          go_roundw
          case rel => exact ⟨i + 1, by omega, by go_num, R.out, HB'.setCell (Nat.le_refl _) _⟩
          case measure => simp [intOf]; omega
        · obtain rfl : i = n' := by omega
          have R : Hid (wr.heap[w.heap.size]? = some (.cells (ca bV (zx acc l)) 5 (0, 0))) := by rw [← xorTo_all hla.out hll.out]; exact HA'
          clear HA'
          go_wp2
          go_roundw
          case rel => exact ⟨k + 1, zx acc l, by omega, by go_num, R.out, by rw [Hid, take_snoc' HL.out, xorAll, List.foldl_append, HX.out]; rfl, HB'⟩
          case measure => simp [intOf]; omega
    · have hkn : k = n := by omega
      have R : Hid (acc = xorAll n0' ls) := by rw [Hid, HX.out, List.take_of_length_le (by have := H.out.1; omega)]
      have R2 : Hid (acc.length = n0') := by rw [Hid, R.out]; exact length_xorAll (fun l hl => hlen.out l hl) (by simp [zeros])
      clear hkn
      go_wp2
      go_ret2
      exact ⟨rfl, by rw [← R.out]; exact ca_bytes HA ⟨Nat.le_refl _, ca_lt HA⟩ R2.out, HB⟩

theorem sumAdd_nw (w : World) (A : Option Addr) (n c : Nat) (ls : List (List UInt8)) (h : Sl 1 eBlock w (LT w.heap.size) A n ls) (hm : n ≤ lim) :
    Calls Try.prog 76 #[.slice A n c] w fun e w' => ∃ A' n' c', e = .returned (.tuple #[.slice A' n' c', .int .i64 (sumAdd ls).2]) ∧ (n' ≤ 16 ∧ n' ≤ c' ∧ c' ≤ 16) ∧ ((sumAdd ls).2 = 0 → 1 ≤ n') ∧ Sl 1 eByte w' (NW w.heap.size w'.heap.size) A' n' (sumAdd ls).1 ∧ Fr w w' := by
  by_cases hc : sumCheck ls = 0
  · by_cases hn : n = 0
    · have hls : ls = [] := List.eq_nil_of_length_eq_zero (h.1.trans hn)
      have hs : sumAdd ls = ([], 8) := by rw [hls]; rfl
      have HS := Lib.hid hs
      have hck : (sumCheck ls != 0) = false := by rw [hc]; rfl
      subst hn
      have SC := Lib.hid (sumCheck_any w _ A 0 c ls h hm)
      clear hs hls hc h
      go_enter Try.func76, Try.ntmps76
      go_wp2_with (go_at_call 94; refine SC.out.mono ?_; rintro e w' ⟨rfl, rfl⟩)
      go_ret2
      rw [HS.out]
      exact ⟨none, 0, 0, rfl, by omega, by simp, Sl.nil, Below.refl _ _⟩
    · refine (sumAdd_ok w A n c _ ls h hm hc (by omega) rfl).mono ?_
      rintro e w' ⟨rfl, hs, hf⟩
      have e1 : sumAdd ls = (xorAll (ls.headD []).length ls, 0) := by rw [sumAdd, if_neg (by simp [hc]), if_neg (by have := h.1; omega)]
      rw [e1]
      have := h.1
      refine ⟨_, _, _, rfl, ?_, ?_, hs, hf⟩
      all_goals
        cases ls with
        | nil => simp at this; omega
        | cons l r =>
          have := sumCheckFrom_ok hc l (by simp)
          simp at this ⊢
          omega
  · have hs : sumAdd ls = ([], sumCheck ls) := by rw [sumAdd, if_pos hc]
    have HS := Lib.hid hs
    have hck : (sumCheck ls != 0) = true := by rw [bne_iff_ne]; exact hc
    have HC := Lib.hid hc
    have SC := Lib.hid (sumCheck_any w _ A n c ls h hm)
    clear hs hc h
    go_enter Try.func76, Try.ntmps76
    go_wp2_with (go_at_call 94; refine SC.out.mono ?_; rintro e w' ⟨rfl, rfl⟩)
    go_ret2
    rw [HS.out]
    exact ⟨none, 0, 0, rfl, by omega, fun h => absurd h HC.out, Sl.nil, Below.refl _ _⟩

theorem sumAdd_any (w : World) (A : Option Addr) (n c : Nat) (ls : List (List UInt8)) (h : Sl 1 eBlock w (LT w.heap.size) A n ls) (hm : n ≤ lim) :
    Calls Try.prog 76 #[.slice A n c] w fun e w' => ∃ A' n' c', e = .returned (.tuple #[.slice A' n' c', .int .i64 (sumAdd ls).2]) ∧ (n' ≤ 16 ∧ n' ≤ c' ∧ c' ≤ 16) ∧ ((sumAdd ls).2 = 0 → 1 ≤ n') ∧ Sl 1 eByte w' (LT w'.heap.size) A' n' (sumAdd ls).1 ∧ Fr w w' := by
  refine (sumAdd_nw w A n c ls h hm).mono ?_
  rintro e w' ⟨A', n', c', rfl, h1, h2, h3, h4⟩
  exact ⟨A', n', c', rfl, h1, h2, h3.nw sByte, h4⟩


/-- From one number to another one. -/
def inR (n a b : Int) : Bool := decide (a ≤ n) && decide (n ≤ b)
theorem inR_t {n a b : Int} (h : a ≤ n ∧ n ≤ b) : inR n a b = true := by simp [inR, h]
theorem inR_f {n a b : Int} (h : ¬ (a ≤ n ∧ n ≤ b)) : inR n a b = false := by
  simp only [inR, Bool.and_eq_false_iff, decide_eq_false_iff_not]; omega
theorem in_any (w : World) (n a b : Int) : Calls Try.prog 61 #[.int .i64 n, .int .i64 a, .int .i64 b] w fun e w' => e = .returned (.bool (inR n a b)) ∧ w = w' := by
  by_cases h1 : a ≤ n
  · by_cases h2 : n ≤ b
    · have HR := Lib.hid (inR_t ⟨h1, h2⟩)
      go_enter Try.func61, Try.ntmps61
      go_wp2
      go_ret
      exact ⟨retB (by rw [HR.out]), rfl⟩
    · have HR := Lib.hid (inR_f (n := n) (a := a) (b := b) (by omega))
      go_enter Try.func61, Try.ntmps61
      go_wp2
      go_ret
      exact ⟨retB (by rw [HR.out]), rfl⟩
  · have HR := Lib.hid (inR_f (n := n) (a := a) (b := b) (by omega))
    go_enter Try.func61, Try.ntmps61
    go_wp2
    go_ret
    exact ⟨retB (by rw [HR.out]), rfl⟩

end Go.Proofs.Ytnfjghldcopaaaa
