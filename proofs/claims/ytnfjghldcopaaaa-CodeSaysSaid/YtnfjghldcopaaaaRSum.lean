/- The reference's sum, bit by bit. No condition. -/
import Derived.Test.YtnfjghldcopaaaaSum
import Derived.Laws.ShiftsVarLaws
set_option linter.unusedSimpArgs false
set_option linter.unusedVariables false
namespace Go.Proofs.Ytnfjghldcopaaaa
open Go.RowKit

theorem ofInt_i64 (a : Nat) (ha : a < 9223372036854775808) : (BitVec.ofInt 64 (a : Int)).toNat = a := by
  rw [BitVec.ofInt_natCast, BitVec.toNat_ofNat]; exact Nat.mod_eq_of_lt (by omega)
theorem i64_and_nat (a b : Nat) (ha : a < 9223372036854775808) (hb : b < 9223372036854775808) : bits .and .i64 (a : Int) (b : Int) = ((a &&& b : Nat) : Int) := by
  have hx : a &&& b < 2 ^ 63 := Nat.and_lt_two_pow _ (by omega)
  show IntKind.i64.wrap ((BitVec.ofInt 64 (a : Int) &&& BitVec.ofInt 64 (b : Int)).toNat : Int) = _
  rw [BitVec.toNat_and, ofInt_i64 a ha, ofInt_i64 b hb, IntKind.wrap_i64]
  omega
theorem count_step (q y t : Nat) (hy : y < 256) (hq : q ≤ 140737488355328) : wrap64 ((q : Int) + bits .and .i64 (wrap64 ((y : Int) / 2 ^ t)) 1) = ((q + y / 2 ^ t % 2 : Nat) : Int) := by
  have h1 : ((y : Int) / 2 ^ t) = ((y / 2 ^ t : Nat) : Int) := by simp
  have h2 : y / 2 ^ t ≤ y := Nat.div_le_self _ _
  have h3 : wrap64 ((y / 2 ^ t : Nat) : Int) = ((y / 2 ^ t : Nat) : Int) := by
    generalize y / 2 ^ t = d at *
    exact IntWalk.wrap64_in _ (by omega)
  have h4 := i64_and_nat (y / 2 ^ t) 1 (by omega) (by omega)
  rw [h1, h3, show (1 : Int) = ((1 : Nat) : Int) from rfl, h4, Nat.and_one_is_mod]
  generalize y / 2 ^ t = d at *
  rw [IntWalk.wrap64_in _ (by omega)]
  omega
theorem or_step (x q t : Nat) (hx : x < 2 ^ t) (ht : t < 8) : bits .or .u8 (x : Int) ((q : Int) % 2 * 2 ^ t % 256) = ((x + 2 ^ t * (q % 2) : Nat) : Int) := by
  have h8 : 2 ^ (t + 1) ≤ 2 ^ 8 := Nat.pow_le_pow_right (by omega) (by omega)
  have h2 : 2 ^ t * (q % 2) ≤ 2 ^ t := by
    have : q % 2 ≤ 1 := by omega
    calc 2 ^ t * (q % 2) ≤ 2 ^ t * 1 := Nat.mul_le_mul_left _ this
      _ = 2 ^ t := by omega
  rw [Nat.pow_succ] at h8
  have h1 : ((q : Int) % 2 * 2 ^ t % 256) = ((2 ^ t * (q % 2) : Nat) : Int) := by
    have : ((q : Int) % 2 * 2 ^ t) = ((2 ^ t * (q % 2) : Nat) : Int) := by
      rw [Int.natCast_mul, Int.mul_comm]; simp
    rw [this]
    omega
  rw [h1, u8_or_nat _ _ (by omega) (by omega)]
  congr 1
  rw [Nat.or_comm, ← Nat.two_pow_add_eq_or_of_lt hx, Nat.add_comm]

/-- The sum of bytes. -/
def xb (l : List UInt8) : UInt8 := l.foldl (· ^^^ ·) 0
theorem xorAll_get {n k : Nat} : ∀ {ls : List (List UInt8)} {acc : List UInt8}, (∀ l ∈ ls, l.length = n) → acc.length = n → k < n → (ls.foldl zx acc)[k]? = some ((ls.map (·.getD k 0)).foldl (· ^^^ ·) (acc.getD k 0))
  | [], acc, _, ha, hk => by simp [List.getElem?_eq_getElem (show k < acc.length by omega)]
  | b :: r, acc, h, ha, hk => by
    have hb := h b (by simp)
    rw [List.foldl_cons, xorAll_get (ls := r) (fun l hl => h l (by simp [hl])) (by rw [length_zx (by omega)]; exact ha) hk]
    have : (zx acc b).getD k 0 = acc.getD k 0 ^^^ b.getD k 0 := by
      simp [zx, List.getElem?_zipWith, List.getElem?_eq_getElem (show k < acc.length by omega), List.getElem?_eq_getElem (show k < b.length by omega)]
    rw [this]; rfl
theorem bit_xor (a b : UInt8) (t : Nat) : (a ^^^ b).toNat / 2 ^ t % 2 = (a.toNat / 2 ^ t % 2 + b.toNat / 2 ^ t % 2) % 2 := by
  have h := Nat.testBit_xor (x := a.toNat) (y := b.toNat) (i := t)
  rw [Nat.testBit_eq_decide_div_mod_eq, Nat.testBit_eq_decide_div_mod_eq, Nat.testBit_eq_decide_div_mod_eq] at h
  rw [UInt8.toNat_xor]
  by_cases h1 : a.toNat / 2 ^ t % 2 = 1 <;> by_cases h2 : b.toNat / 2 ^ t % 2 = 1 <;> simp [h1, h2] at h ⊢ <;> omega

set_option maxHeartbeats 1000000 in
theorem refSum_any (w : World) (A : Option Addr) (n c n0 : Nat) (ls : List (List UInt8)) (h : Sl 1 eBlock w (LT w.heap.size) A n ls) (hm : n ≤ lim) (hc : sumCheck ls = 0) (hn : 0 < n) (hn0 : n0 = (ls.headD []).length) :
    Calls Try.prog 78 #[.slice A n c] w fun e w' => ∃ v, e = .returned v ∧ Own 1 eByte w' w.heap.size 5 v (xorAll n0 ls) ∧ Fr w w' := by
  have hlen : Hid (∀ l ∈ ls, l.length = n0) := fun l hl => by rw [hn0]; exact (sumCheckFrom_ok hc l hl).1
  have hb : 1 ≤ n0 ∧ n0 ≤ 16 := by
    have := h.1
    cases ls with
    | nil => simp at this; omega
    | cons l r =>
      have := sumCheckFrom_ok hc l (by simp)
      simp at hn0 this
      omega
  obtain ⟨hb1, hb2⟩ := hb
  have HC := Lib.hid hc
  have H := Lib.hid h
  obtain ⟨ad, rfl, hE⟩ := h.els hn
  obtain ⟨A0, n0', c0, l0, hl0, hc0, hm0, hs0⟩ := hE.block0 hn
  obtain rfl : n0' = n0 := by rw [hn0, ← hs0.1, List.headD_eq_head?_getD, hl0]; rfl
  have HN0 := Lib.hid hn0
  clear hn0 h hc hs0 hm0 hl0
  have hm1 := hm
  unfold lim at hm1
  go_enter Try.func78, Try.ntmps78
  go_wp2_with fail
  go_loopw [3, 14] (fun v i wr => ∃ k : Nat, k ≤ n0' ∧ i = .int .i64 k ∧ Own 1 eByte wr w.heap.size 5 v ((xorAll n0' ls).take k) ∧ Below w.heap.size w wr) (fun _ i _ => n0' - (intOf i).toNat)
  case atStart => exact ⟨0, Nat.zero_le _, rfl, Own.nil, Below.refl _ _⟩
  case round =>
    obtain ⟨k, hk, rfl, hown, HB⟩ := hrel
    have HOW := Lib.hid hown
    clear hown
    by_cases hlt : k < n0'
    · obtain ⟨z, hz⟩ : ∃ z, z = xb (ls.map (·.getD k 0)) := ⟨_, rfl⟩
      have HZ : Hid ((xorAll n0' ls)[k]? = some z) := by
        rw [Hid, hz, xorAll, xorAll_get (fun l hl => hlen.out l hl) (by simp [zeros]) hlt, xb]
        congr 2
        simp [zeros, List.getElem?_replicate, hlt]
      have HZ2 := Lib.hid hz
      clear hz
      obtain ⟨wo, rfl⟩ : ∃ wo : World, wo = wr := ⟨_, rfl⟩
      go_wp2_with fail
      go_loop [5, 17] (fun cc i => ∃ (t : Nat) (x : Nat), t ≤ 8 ∧ i = .int .i64 t ∧ cc = .int .u8 x ∧ Hid (x = z.toNat % 2 ^ t)) (fun _ i => 8 - (intOf i).toNat)
      case atStart => exact ⟨0, 0, Nat.zero_le _, rfl, rfl, by simp [Hid, Nat.mod_one]⟩
      case round =>
        obtain ⟨t, x, ht, rfl, rfl, hx⟩ := hrel
        by_cases htl : t < 8
        · go_wp2_with fail
          go_loop [7, 22] (fun nn i => ∃ (j : Nat) (q : Nat), j ≤ n ∧ i = .int .i64 j ∧ nn = .int .i64 q ∧ q ≤ j ∧ Hid (q % 2 = (xb ((ls.take j).map (·.getD k 0))).toNat / 2 ^ t % 2)) (fun _ i => n - (intOf i).toNat)
          case atStart => exact ⟨0, 0, Nat.zero_le _, rfl, rfl, Nat.zero_le _, by simp [Hid, xb]⟩
          case round =>
            obtain ⟨j, q, hj, rfl, rfl, hq, HQ⟩ := hrel
            by_cases hjl : j < n
            · obtain ⟨A', n', c', l, hl, hcl, hm', hs⟩ := hE.block hjl
              have hll : Hid (l.length = n0') := hlen.out l (List.mem_of_getElem? hl)
              obtain rfl : n' = n0' := by rw [← hs.1]; exact hll.out
              have hcw : wo.cell? (ad.add j) = some (.slice A' n' c') := (HB.cell (p := ad.add j) (by rw [block_of_add]; exact hE.2.1)).trans hcl
              obtain ⟨adb, rfl, hbE⟩ := hs.els (by omega)
              obtain ⟨y, hy, hcy⟩ := hbE.byte hlt
              have hcy' : wo.cell? (adb.add k) = some (.int .u8 (y.toNat : Int)) := (HB.cell (p := adb.add k) (by rw [block_of_add]; exact hbE.2.1)).trans hcy
              have HQ' : Hid ((q + y.toNat / 2 ^ t % 2) % 2 = (xb ((ls.take (j + 1)).map (·.getD k 0))).toNat / 2 ^ t % 2) := by
                have e : (fun x : List UInt8 => x.getD k 0) l = y := by simp [hy]
                rw [Hid, take_snoc' hl, List.map_append, xb, List.foldl_append]
                simp only [List.map_cons, List.map_nil, List.foldl_cons, List.foldl_nil]
                rw [show l.getD k 0 = y from e, bit_xor]
                have hq := HQ.out
                rw [xb] at hq
                generalize (List.foldl (fun x1 x2 => x1 ^^^ x2) 0 (List.map (fun x : List UInt8 => x.getD k 0) (List.take j ls))).toNat / 2 ^ t % 2 = u at *
                generalize y.toNat / 2 ^ t % 2 = u' at *
                omega
              have hys : Hid (wrap64 ((q : Int) + bits .and .i64 (wrap64 ((y.toNat : Int) / 2 ^ t)) 1) = ((q + y.toNat / 2 ^ t % 2 : Nat) : Int)) := count_step q y.toNat t y.toNat_lt (by omega)
              clear hl hs hcl HQ hy
              go_wp2
              go_round
              case rel => exact ⟨j + 1, q + y.toNat / 2 ^ t % 2, by omega, by go_num, by rw [hys.out], by omega, HQ'⟩
              case measure => simp [intOf]; omega
            · obtain rfl : j = n := by omega
              have hq2 : Hid (q % 2 = z.toNat / 2 ^ t % 2) := by rw [HZ2.out, Hid, HQ.out, List.take_of_length_le (by have := H.out.1; omega)]
              have hos : Hid (bits .or .u8 (x : Int) ((q : Int) % 2 * 2 ^ t % 256) = ((x + 2 ^ t * (q % 2) : Nat) : Int)) := or_step x q t (by rw [hx.out]; exact Nat.mod_lt _ (Nat.pow_pos (by omega))) htl
              have hn : Hid (x + 2 ^ t * (q % 2) = z.toNat % 2 ^ (t + 1)) := by rw [Hid, Nat.mod_pow_succ, ← hx.out, hq2.out]
              clear HQ
              go_wp2
              go_round
              case rel => exact ⟨t + 1, x + 2 ^ t * (q % 2), by omega, by go_num, by rw [hos.out], hn⟩
              case measure => simp [intOf]; omega
        · obtain rfl : t = 8 := by omega
          have hxz : Hid (x = z.toNat) := by rw [Hid, hx.out]; exact Nat.mod_eq_of_lt z.toNat_lt
          have hl : Hid ((xorAll n0' ls).length = n0') := length_xorAll (fun l hl => hlen.out l hl) (by simp [zeros])
          clear hx
          go_wp2_with (at_builtin; refine wpList_apps _ rfl _ _ 27 rfl w.heap.size 5 (bV 0) 1 1 Try.underlying27 infoByte rfl (by decide) sByte _ ((xorAll n0' ls).take k) rfl (HOW.out.fr sByte (frAlloc _ _)) ⟨wo.heap.size, 0, none⟩ 1 1 [.int .u8 x] rfl rfl (cell_one_new _ _ _) ?c2 [z] rfl ?c3 ?c4 ?c5 ?c6 ?_)
          case c2 => first | rfl | (intro u hu; simp at hu; subst hu; rfl)
          case c3 =>
            intro i y hy
            obtain rfl : i = 0 := by have := (List.getElem?_eq_some_iff.1 hy).1; simp at this; omega
            obtain rfl : z = y := by simpa using hy
            show some (Value.int .u8 (x : Int)) = _
            rw [hxz.out]
          case c4 => have := hl.out; (try simp only [List.length_take]); unfold maxLen; omega
          case c5 => have := hl.out; (try simp only [List.length_take]); unfold lim; omega
          case c6 => have := HB.size; simp; omega
          · intro v' w1 hown' hg hge
            have R : Hid (Own 1 eByte w1 w.heap.size 5 v' ((xorAll n0' ls).take (k + 1))) := by rw [Hid, take_snoc' HZ.out]; exact hown'
            have HB' : Below w.heap.size w w1 := (HB.alloc HB.size _).grown hg (by have := HB.size; simp; omega) hge
            clear hown' hg hge
            go_wp2
            go_roundw
            case rel => exact ⟨k + 1, by omega, by go_num, R.out, HB'⟩
            case measure => simp [intOf]; omega
    · have R : Hid (Own 1 eByte wr w.heap.size 5 u3 (xorAll n0' ls)) := by
        have := HOW.out
        rw [List.take_of_length_le (by rw [show (xorAll n0' ls).length = n0' from length_xorAll (fun l hl => hlen.out l hl) (by simp [zeros])]; omega)] at this
        exact this
      go_wp2
      go_ret
      exact ⟨u3, rfl, R.out, HB⟩
end Go.Proofs.Ytnfjghldcopaaaa
