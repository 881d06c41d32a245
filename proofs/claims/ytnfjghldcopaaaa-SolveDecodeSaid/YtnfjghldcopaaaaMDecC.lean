/- The reference's AddRow. No condition. -/
import Derived.Test.YtnfjghldcopaaaaSum
import Derived.Laws.ShiftsVarLaws
import Derived.Test.YtnfjghldcopaaaaMDecA
import Derived.Test.YtnfjghldcopaaaaCodeP
import Derived.Test.YtnfjghldcopaaaaOwn
import Derived.Laws.AppendOwnNone
import Derived.Lib.AppendZerosOnto
import Derived.Test.YtnfjghldcopaaaaCut
import Derived.Test.YtnfjghldcopaaaaApp
import Derived.Test.YtnfjghldcopaaaaMDecB
import Derived.Test.YtnfjghldcopaaaaCode
import Derived.Test.YtnfjghldcopaaaaBox
import Derived.Deep.RegionWith
import Derived.Test.YtnfjghldcopaaaaSolP
import Derived.Deep.RegionLaw
import Derived.Deep.DeepCutAuto
import Derived.Deep.Cut
import Derived.Deep.RegionHeld3
set_option linter.unusedSimpArgs false
set_option linter.unusedVariables false
namespace Go.Proofs.Ytnfjghldcopaaaa
open Go.RowKit

theorem ofInt_i64 (a : Nat) (ha : a < 9223372036854775808) : (BitVec.ofInt 64 (a : Int)).toNat = a := by
  rw [BitVec.ofInt_natCast, BitVec.toNat_ofNat]; exact Nat.mod_eq_of_lt (by omega)
theorem i64_and_nat (a b : Nat) (ha : a < 9223372036854775808) (hb : b < 9223372036854775808) : bits .and .i64 (a : Int) (b : Int) = ((a &&& b : Nat) : Int) := by
  have hx : a &&& b < 2 ^ 63 := Nat.and_lt_two_pow _ (by omega)
  show IntKind.i64.wrap ((BitVec.ofInt 64 (a : Int) &&& BitVec.ofInt 64 (b : Int)).toNat : Int) = _
  rw [BitVec.toNat_and, ofInt_i64 a ha, ofInt_i64 b hb, IntKind.wrap_i64]
  omega
theorem count_step (q y t : Nat) (hy : y < 256) (hq : q ≤ 140737488355328) : wrap64 ((q : Int) + bits .and .i64 (wrap64 ((y : Int) / 2 ^ t)) 1) = ((q + y / 2 ^ t % 2 : Nat) : Int) := by
  have h1 : ((y : Int) / 2 ^ t) = ((y / 2 ^ t : Nat) : Int) := by simp
  have h2 : y / 2 ^ t ≤ y := Nat.div_le_self _ _
  have h3 : wrap64 ((y / 2 ^ t : Nat) : Int) = ((y / 2 ^ t : Nat) : Int) := by
    generalize y / 2 ^ t = d at *
    exact IntWalk.wrap64_in _ (by omega)
  have h4 := i64_and_nat (y / 2 ^ t) 1 (by omega) (by omega)
  rw [h1, h3, show (1 : Int) = ((1 : Nat) : Int) from rfl, h4, Nat.and_one_is_mod]
  generalize y / 2 ^ t = d at *
  rw [IntWalk.wrap64_in _ (by omega)]
  omega
theorem or_step (x q t : Nat) (hx : x < 2 ^ t) (ht : t < 8) : bits .or .u8 (x : Int) ((q : Int) % 2 * 2 ^ t % 256) = ((x + 2 ^ t * (q % 2) : Nat) : Int) := by
  have h8 : 2 ^ (t + 1) ≤ 2 ^ 8 := Nat.pow_le_pow_right (by omega) (by omega)
  have h2 : 2 ^ t * (q % 2) ≤ 2 ^ t := by
    have : q % 2 ≤ 1 := by omega
    calc 2 ^ t * (q % 2) ≤ 2 ^ t * 1 := Nat.mul_le_mul_left _ this
      _ = 2 ^ t := by omega
  rw [Nat.pow_succ] at h8
  have h1 : ((q : Int) % 2 * 2 ^ t % 256) = ((2 ^ t * (q % 2) : Nat) : Int) := by
    have : ((q : Int) % 2 * 2 ^ t) = ((2 ^ t * (q % 2) : Nat) : Int) := by
      rw [Int.natCast_mul, Int.mul_comm]; simp
    rw [this]
    omega
  rw [h1, u8_or_nat _ _ (by omega) (by omega)]
  congr 1
  rw [Nat.or_comm, ← Nat.two_pow_add_eq_or_of_lt hx, Nat.add_comm]

/-- The sum of bytes. -/
def xb (l : List UInt8) : UInt8 := l.foldl (· ^^^ ·) 0
theorem xorAll_get {n k : Nat} : ∀ {ls : List (List UInt8)} {acc : List UInt8}, (∀ l ∈ ls, l.length = n) → acc.length = n → k < n → (ls.foldl zx acc)[k]? = some ((ls.map (·.getD k 0)).foldl (· ^^^ ·) (acc.getD k 0))
  | [], acc, _, ha, hk => by simp [List.getElem?_eq_getElem (show k < acc.length by omega)]
  | b :: r, acc, h, ha, hk => by
    have hb := h b (by simp)
    rw [List.foldl_cons, xorAll_get (ls := r) (fun l hl => h l (by simp [hl])) (by rw [length_zx (by omega)]; exact ha) hk]
    have : (zx acc b).getD k 0 = acc.getD k 0 ^^^ b.getD k 0 := by
      simp [zx, List.getElem?_zipWith, List.getElem?_eq_getElem (show k < acc.length by omega), List.getElem?_eq_getElem (show k < b.length by omega)]
    rw [this]; rfl
theorem bit_xor (a b : UInt8) (t : Nat) : (a ^^^ b).toNat / 2 ^ t % 2 = (a.toNat / 2 ^ t % 2 + b.toNat / 2 ^ t % 2) % 2 := by
  have h := Nat.testBit_xor (x := a.toNat) (y := b.toNat) (i := t)
  rw [Nat.testBit_eq_decide_div_mod_eq, Nat.testBit_eq_decide_div_mod_eq, Nat.testBit_eq_decide_div_mod_eq] at h
  rw [UInt8.toNat_xor]
  by_cases h1 : a.toNat / 2 ^ t % 2 = 1 <;> by_cases h2 : b.toNat / 2 ^ t % 2 = 1 <;> simp [h1, h2] at h ⊢ <;> omega

set_option maxHeartbeats 1000000 in
theorem refSum_any (w : World) (A : Option Addr) (n c n0 : Nat) (ls : List (List UInt8)) (h : Sl 1 eBlock w (LT w.heap.size) A n ls) (hm : n ≤ lim) (hc : sumCheck ls = 0) (hn : 0 < n) (hn0 : n0 = (ls.headD []).length) :
    Calls Try.prog 78 #[.slice A n c] w fun e w' => ∃ v, e = .returned v ∧ Own 1 eByte w' w.heap.size 5 v (xorAll n0 ls) ∧ Fr w w' := by
  have hlen : Hid (∀ l ∈ ls, l.length = n0) := fun l hl => by rw [hn0]; exact (sumCheckFrom_ok hc l hl).1
  have hb : 1 ≤ n0 ∧ n0 ≤ 16 := by
    have := h.1
    cases ls with
    | nil => simp at this; omega
    | cons l r =>
      have := sumCheckFrom_ok hc l (by simp)
      simp at hn0 this
      omega
  obtain ⟨hb1, hb2⟩ := hb
  have HC := Lib.hid hc
  have H := Lib.hid h
  obtain ⟨ad, rfl, hE⟩ := h.els hn
  obtain ⟨A0, n0', c0, l0, hl0, hc0, hm0, hs0⟩ := hE.block0 hn
  obtain rfl : n0' = n0 := by rw [hn0, ← hs0.1, List.headD_eq_head?_getD, hl0]; rfl
  have HN0 := Lib.hid hn0
  clear hn0 h hc hs0 hm0 hl0
  have hm1 := hm
  unfold lim at hm1
  go_enter Try.func78, Try.ntmps78
  go_wp2_with fail
  go_loopw [3, 14] (fun v i wr => ∃ k : Nat, k ≤ n0' ∧ i = .int .i64 k ∧ Own 1 eByte wr w.heap.size 5 v ((xorAll n0' ls).take k) ∧ Below w.heap.size w wr) (fun _ i _ => n0' - (intOf i).toNat)
  case atStart => exact ⟨0, Nat.zero_le _, rfl, Own.nil, Below.refl _ _⟩
  case round =>
    obtain ⟨k, hk, rfl, hown, HB⟩ := hrel
    have HOW := Lib.hid hown
    clear hown
    by_cases hlt : k < n0'
    · obtain ⟨z, hz⟩ : ∃ z, z = xb (ls.map (·.getD k 0)) := ⟨_, rfl⟩
      have HZ : Hid ((xorAll n0' ls)[k]? = some z) := by
        rw [Hid, hz, xorAll, xorAll_get (fun l hl => hlen.out l hl) (by simp [zeros]) hlt, xb]
        congr 2
        simp [zeros, List.getElem?_replicate, hlt]
      have HZ2 := Lib.hid hz
      clear hz
      obtain ⟨wo, rfl⟩ : ∃ wo : World, wo = wr := ⟨_, rfl⟩
      go_wp2_with fail
      go_loop [5, 17] (fun cc i => ∃ (t : Nat) (x : Nat), t ≤ 8 ∧ i = .int .i64 t ∧ cc = .int .u8 x ∧ Hid (x = z.toNat % 2 ^ t)) (fun _ i => 8 - (intOf i).toNat)
      case atStart => exact ⟨0, 0, Nat.zero_le _, rfl, rfl, by simp [Hid, Nat.mod_one]⟩
      case round =>
        obtain ⟨t, x, ht, rfl, rfl, hx⟩ := hrel
        by_cases htl : t < 8
        · go_wp2_with fail
          go_loop [7, 22] (fun nn i => ∃ (j : Nat) (q : Nat), j ≤ n ∧ i = .int .i64 j ∧ nn = .int .i64 q ∧ q ≤ j ∧ Hid (q % 2 = (xb ((ls.take j).map (·.getD k 0))).toNat / 2 ^ t % 2)) (fun _ i => n - (intOf i).toNat)
          case atStart => exact ⟨0, 0, Nat.zero_le _, rfl, rfl, Nat.zero_le _, by simp [Hid, xb]⟩
          case round =>
            obtain ⟨j, q, hj, rfl, rfl, hq, HQ⟩ := hrel
            by_cases hjl : j < n
            · obtain ⟨A', n', c', l, hl, hcl, hm', hs⟩ := hE.block hjl
              have hll : Hid (l.length = n0') := hlen.out l (List.mem_of_getElem? hl)
              obtain rfl : n' = n0' := by rw [← hs.1]; exact hll.out
              have hcw : wo.cell? (ad.add j) = some (.slice A' n' c') := (HB.cell (p := ad.add j) (by rw [block_of_add]; exact hE.2.1)).trans hcl
              obtain ⟨adb, rfl, hbE⟩ := hs.els (by omega)
              obtain ⟨y, hy, hcy⟩ := hbE.byte hlt
              have hcy' : wo.cell? (adb.add k) = some (.int .u8 (y.toNat : Int)) := (HB.cell (p := adb.add k) (by rw [block_of_add]; exact hbE.2.1)).trans hcy
              have HQ' : Hid ((q + y.toNat / 2 ^ t % 2) % 2 = (xb ((ls.take (j + 1)).map (·.getD k 0))).toNat / 2 ^ t % 2) := by
                have e : (fun x : List UInt8 => x.getD k 0) l = y := by simp [hy]
                rw [Hid, take_snoc' hl, List.map_append, xb, List.foldl_append]
                simp only [List.map_cons, List.map_nil, List.foldl_cons, List.foldl_nil]
                rw [show l.getD k 0 = y from e, bit_xor]
                have hq := HQ.out
                rw [xb] at hq
                generalize (List.foldl (fun x1 x2 => x1 ^^^ x2) 0 (List.map (fun x : List UInt8 => x.getD k 0) (List.take j ls))).toNat / 2 ^ t % 2 = u at *
                generalize y.toNat / 2 ^ t % 2 = u' at *
                omega
              have hys : Hid (wrap64 ((q : Int) + bits .and .i64 (wrap64 ((y.toNat : Int) / 2 ^ t)) 1) = ((q + y.toNat / 2 ^ t % 2 : Nat) : Int)) := count_step q y.toNat t y.toNat_lt (by omega)
              clear hl hs hcl HQ hy
              go_wp2
              go_round
              case rel => exact ⟨j + 1, q + y.toNat / 2 ^ t % 2, by omega, by go_num, by rw [hys.out], by omega, HQ'⟩
              case measure => simp [intOf]; omega
            · obtain rfl : j = n := by omega
              have hq2 : Hid (q % 2 = z.toNat / 2 ^ t % 2) := by rw [HZ2.out, Hid, HQ.out, List.take_of_length_le (by have := H.out.1; omega)]
              have hos : Hid (bits .or .u8 (x : Int) ((q : Int) % 2 * 2 ^ t % 256) = ((x + 2 ^ t * (q % 2) : Nat) : Int)) := or_step x q t (by rw [hx.out]; exact Nat.mod_lt _ (Nat.pow_pos (by omega))) htl
              have hn : Hid (x + 2 ^ t * (q % 2) = z.toNat % 2 ^ (t + 1)) := by rw [Hid, Nat.mod_pow_succ, ← hx.out, hq2.out]
              clear HQ
              go_wp2
              go_round
              case rel => exact ⟨t + 1, x + 2 ^ t * (q % 2), by omega, by go_num, by rw [hos.out], hn⟩
              case measure => simp [intOf]; omega
        · obtain rfl : t = 8 := by omega
          have hxz : Hid (x = z.toNat) := by rw [Hid, hx.out]; exact Nat.mod_eq_of_lt z.toNat_lt
          have hl : Hid ((xorAll n0' ls).length = n0') := length_xorAll (fun l hl => hlen.out l hl) (by simp [zeros])
          clear hx
          go_wp2_with (at_builtin; refine wpList_apps _ rfl _ _ 27 rfl w.heap.size 5 (bV 0) 1 1 Try.underlying27 infoByte rfl (by decide) sByte _ ((xorAll n0' ls).take k) rfl (HOW.out.fr sByte (frAlloc _ _)) ⟨wo.heap.size, 0, none⟩ 1 1 [.int .u8 x] rfl rfl (cell_one_new _ _ _) ?c2 [z] rfl ?c3 ?c4 ?c5 ?c6 ?_)
          case c2 => first | rfl | (intro u hu; simp at hu; subst hu; rfl)
          case c3 =>
            intro i y hy
            obtain rfl : i = 0 := by have := (List.getElem?_eq_some_iff.1 hy).1; simp at this; omega
            obtain rfl : z = y := by simpa using hy
            show some (Value.int .u8 (x : Int)) = _
            rw [hxz.out]
          case c4 => have := hl.out; (try simp only [List.length_take]); unfold maxLen; omega
          case c5 => have := hl.out; (try simp only [List.length_take]); unfold lim; omega
          case c6 => have := HB.size; simp; omega
          · intro v' w1 hown' hg hge
            have R : Hid (Own 1 eByte w1 w.heap.size 5 v' ((xorAll n0' ls).take (k + 1))) := by rw [Hid, take_snoc' HZ.out]; exact hown'
            have HB' : Below w.heap.size w w1 := (HB.alloc HB.size _).grown hg (by have := HB.size; simp; omega) hge
            clear hown' hg hge
            go_wp2
            go_roundw
            case rel => exact ⟨k + 1, by omega, by go_num, R.out, HB'⟩
            case measure => simp [intOf]; omega
    · have R : Hid (Own 1 eByte wr w.heap.size 5 u3 (xorAll n0' ls)) := by
        have := HOW.out
        rw [List.take_of_length_le (by rw [show (xorAll n0' ls).length = n0' from length_xorAll (fun l hl => hlen.out l hl) (by simp [zeros])]; omega)] at this
        exact this
      go_wp2
      go_ret
      exact ⟨u3, rfl, R.out, HB⟩
end Go.Proofs.Ytnfjghldcopaaaa
namespace Go.Proofs.Ytnfjghldcopaaaa

/-- Block by block, added on. -/
def symTo (K : Nat) (bl : List (List UInt8)) (L : List Int) : List UInt8 := xorAll K (L.map fun k => bl.getD k.toNat [])
theorem sel_idx {bl : List (List UInt8)} {X : List Bool} (h : X.length = bl.length) : (selIdx X).map (fun k => bl.getD k.toNat []) = sel X bl := by
  have hz : X.zip bl = (List.range X.length).map fun k => (X.getD k false, bl.getD k []) := by
    apply List.ext_getElem?
    intro k
    by_cases hk : k < X.length
    · rw [List.getElem?_map, List.getElem?_range hk, show (X.zip bl)[k]? = some (X[k], bl[k]'(h ▸ hk)) from List.getElem?_zip_eq_some.2 ⟨List.getElem?_eq_getElem hk, List.getElem?_eq_getElem (h ▸ hk)⟩]
      simp [List.getD_eq_getElem?_getD, List.getElem?_eq_getElem hk, List.getElem?_eq_getElem (h ▸ hk : k < bl.length)]
    · rw [List.getElem?_eq_none (by simp; omega), List.getElem?_eq_none (by simp; omega)]
  unfold sel selIdx
  rw [hz, List.filter_map, List.map_map, List.map_map]
  rfl
theorem zx_zerosR {K : Nat} {a : List UInt8} (h : a.length = K) : zx (zeros K) a = a := by
  apply List.ext_getElem (by simp [zx, zeros, h])
  intro i h1 h2
  simp [zx, zeros]
theorem xorAll_two {K : Nat} {a b : List UInt8} (h : a.length = K) : xorAll K [a, b] = zx a b := by
  unfold xorAll
  simp only [List.foldl_cons, List.foldl_nil, zx_zerosR h]
theorem symTo_nil (K : Nat) (bl : List (List UInt8)) : symTo K bl [] = zeros K := rfl
theorem length_symTo {K : Nat} {bl : List (List UInt8)} {L : List Int} (h : ∀ k ∈ L, (bl.getD k.toNat []).length = K) : (symTo K bl L).length = K :=
  length_xorAll (fun l hl => by obtain ⟨k, hk, rfl⟩ := List.mem_map.1 hl; exact h k hk) (by simp [zeros])
theorem symTo_snoc {K : Nat} {bl : List (List UInt8)} {L : List Int} {k : Int} (h : ∀ k ∈ L, (bl.getD k.toNat []).length = K) : xorAll K [symTo K bl L, bl.getD k.toNat []] = symTo K bl (L ++ [k]) := by
  rw [xorAll_two (length_symTo h)]
  unfold symTo xorAll
  rw [List.map_append, List.foldl_append]; rfl
end Go.Proofs.Ytnfjghldcopaaaa
namespace Go.Proofs.Ytnfjghldcopaaaa
set_option maxRecDepth 100000
open Go.RowKit

/-- append of nothing, from nil. -/
theorem wpList_apps_nil {α : Type} {r : ERd α} {size : Nat} {P : Program} (w : World) {ops : Array Oper} {rest : List Oper} {o : Oper} {a : Act} {Q : Exit → Act → World → Prop} (hgd : o.guard = none) (s x : Operand) (t : TypeId)
    (ho : o.op = .call { callee := .builtin .append, args := #[s, x], argTypes := #[t, t] })
    (base : Nat) (e : TypeId) (i : TypeInfo) (ht : P.underlying t = some (.slice e)) (hi : P.info? e = some i)
    (v : Value) (xs : List α) (c : Nat) (hs : a.eval s = v) (hown : Own size r w base e v xs) (hx : a.eval x = .slice none 0 c)
    (h : wpList P ops Q rest (a.put o.dst v) w) : wpList P ops Q (o :: rest) a w := by
  obtain ⟨cs, hrow, _⟩ := hown
  refine wpList_plain hgd fun K hK => ?_
  have hrun : (Builtin.append_ #[t, t] o.type #[v, .slice none 0 c]).run P w = .ok v w := by
    rcases hrow.2 with ⟨rfl, _⟩ | ⟨g, cap, cur, rfl, _, _, hnc, _⟩
    · simp [Builtin.append_, run_underlying ht, sizeOf, typeInfo, hi, Builtin.lenOf, Builtin.firstCells]
    · simp [Builtin.append_, run_underlying ht, sizeOf, typeInfo, hi, Builtin.lenOf, Builtin.firstCells, hnc, storeCells]
  unfold Oper.wp
  simp [execOp, ho, resolve, invoke, builtin, hs, hx, hrun, Result.andThen]
  exact hK _ _ h

/-- How many in all. -/
def lens {α : Type} (ls : List (List α)) : Nat := (ls.map List.length).sum
theorem lens_take_succ {α : Type} {ls : List (List α)} {k : Nat} {l : List α} (h : ls[k]? = some l) : lens (ls.take (k + 1)) = lens (ls.take k) + l.length := by
  unfold lens
  rw [take_snoc' h, List.map_append, List.sum_append]; simp
theorem lens_take_le {α : Type} (ls : List (List α)) (k : Nat) : lens (ls.take k) ≤ lens ls := by
  unfold lens
  have : ls = ls.take k ++ ls.drop k := (List.take_append_drop k ls).symm
  conv => rhs; rw [this, List.map_append, List.sum_append]
  omega
theorem length_flatten_lens {α : Type} (ls : List (List α)) : ls.flatten.length = lens ls := by unfold lens; rw [List.length_flatten]

theorem Els.slC {α : Type} {size bytes : Nat} {r : ERd α} {w : World} {S : Nat → Prop} {n k : Nat} {ad : Addr} {ls : List (List α)} (h : Els 1 (eSl size bytes r) w S ad n ls) (hk : k < n) :
    ∃ A' n' c' l, ls[k]? = some l ∧ w.cell? (ad.add k) = some (.slice A' n' c') ∧ n' * bytes ≤ lim ∧ n' ≤ c' ∧ c' ≤ maxLen ∧ Sl size r w S A' n' l := by
  obtain ⟨x, hx, A', n', c', h0, h1, h2⟩ := h.at_ hk
  exact ⟨A', n', c', x, hx, by simpa using h0, h1.1, h1.2.1, h1.2.2, h2⟩


theorem growBlock_nil (w : World) (n : Nat) (hm : n * 1 ≤ lim) (h63 : n ≤ lim) :
    Calls Try.prog 110 #[.slice none 0 0, .int .i64 n] w fun e w' => ∃ v, e = .returned v ∧ Own 1 eByte w' w.heap.size 5 v ([] : List (UInt8)) ∧ Fr w w' := by
  obtain ⟨i0, hi0, hi1⟩ := Option.map_eq_some_iff.1 infoByte
  simp only [Prod.mk.injEq] at hi1
  obtain ⟨hz0, hz1, hz2⟩ := hi1
  unfold lim at h63 hm
  have h1 : ¬ ((n : Int) < 0) := by omega
  by_cases h0 : n = 0
  · subst h0
    clear hi0 hz0 hz1 hz2
    go_enter Try.func110, Try.ntmps110
    go_wp2
    go_ret
    exact ⟨_, rfl, Own.nil, Below.refl _ _⟩
  · have h4 : (n : Int) > 0 := by omega
    obtain ⟨G, hG⟩ : ∃ G, G = grownCap w n 0 5 := ⟨_, rfl⟩
    obtain ⟨cur, hcur⟩ : ∃ cur, cur = Builtin.zeroCells ((bV 0) : Value).cells n ++ Builtin.zeroCells ((bV 0) : Value).cells (G - n) := ⟨_, rfl⟩
    have hge := grownCap_ge w n 0 5
    have hle := grownCap_le_maxLen w n 0 5 (by unfold maxLen; omega)
    rw [← hG] at hge hle
    have hcs : cur.size = G * 1 := by
      rw [hcur, Array.size_append, size_zeroCells, size_zeroCells, ← Nat.add_mul]
      show (n + (G - n)) * 1 = G * 1
      congr 1; omega
    have hrz : Hid (∀ ty, (Builtin.append_ #[27, 3] ty #[.slice none 0 0, .int .i64 (n : Int)]).run Try.prog w = .ok (.slice (some ⟨w.heap.size, 0, none⟩) n G) (w.drew.alloc (.cells cur 5))) := fun ty => by
      have h := Lib.run_append_grow_zeros (P := Try.prog) w 27 3 ty 5 i0 (bV 0) .i64 .i64 Try.underlying27 Try.underlying3 hi0 hz0 Option.none 0 0 [] (run_firstCells_none w.drew i0.size 0 0 0) n (by omega) (by rw [hz1]; decide) (by omega) (by omega)
        (by rw [hz2]; omega) (by rw [hz2, Nat.zero_add]; exact growslice_fits (by omega) (by omega))
      rw [Nat.zero_add] at h
      rw [h, hcur, hG]
      simp
    have HO : Hid (Own 1 eByte (w.drew.alloc (.cells cur 5)) w.heap.size 5 (.slice (some ⟨w.heap.size, 0, none⟩) 0 G) ([] : List (UInt8))) :=
      ⟨[], ⟨by simp, .inr ⟨w.heap.size, G, cur, rfl, Nat.le_refl _, heap_alloc_new w.drew _, Nat.zero_le _, hle, hcs, by simp⟩⟩, fun i x h => by simp at h⟩
    clear hG hcur hle hcs hi0 hz0 hz1 hz2
    go_enter Try.func110, Try.ntmps110
    go_wp2_with (at_builtin; refine Lib.wpList_append_run _ rfl _ _ _ _ rfl _ _ rfl rfl _ _ (hrz.out _) ?_)
    go_ret
    exact ⟨_, rfl, HO.out, (Below.refl _ _).drew.alloc (Nat.le_refl _) _⟩

set_option maxHeartbeats 1000000 in
theorem concatBlock_any (w : World) (A : Option Addr) (n c : Nat) (ls : List (List (UInt8))) (h : Sl 1 (eSl 1 1 eByte) w (LT w.heap.size) A n ls) (hm : n ≤ lim) (hs : lens ls * 1 ≤ lim) (hs1 : lens ls ≤ lim) :
    Calls Try.prog 97 #[.slice A n c] w fun e w' => ∃ v, e = .returned v ∧ Own 1 eByte w' w.heap.size 5 v ls.flatten ∧ Fr w w' := by
  obtain ⟨i0, hi0, _⟩ := Option.map_eq_some_iff.1 infoByte
  have hm1 := hm
  have hs2 := hs1
  unfold lim at hm1 hs2
  (have H := Lib.hid h; clear h; have Hi0 := Lib.hid hi0; clear hi0)
  go_enter Try.func97, Try.ntmps97
  go_wp2_with fail
  go_loop [3, 11] (fun s i => ∃ k : Nat, k ≤ n ∧ i = .int .i64 k ∧ s = .int .i64 (lens (ls.take k) : Nat)) (fun _ i => n - (intOf i).toNat)
  case atStart => exact ⟨0, Nat.zero_le _, rfl, by simp [lens]⟩
  case round =>
    obtain ⟨k, hk, rfl, rfl⟩ := hrel
    by_cases hlt : k < n
    · obtain ⟨ad, rfl, hE⟩ := H.out.els (by omega)
      obtain ⟨A', n', c', l, hl, hcl, hm', hc1, hc2, hsl⟩ := hE.slC hlt
      have h1 := lens_take_succ hl
      have h2 := lens_take_le ls (k + 1)
      rw [hsl.1] at h1
      obtain ⟨a, ha⟩ : ∃ a, a = lens (ls.take k) := ⟨_, rfl⟩
      obtain ⟨b, hb⟩ : ∃ b, b = lens (ls.take (k + 1)) := ⟨_, rfl⟩
      rw [← ha] at h1 ⊢
      rw [← hb] at h1 h2
      have hab : a + n' ≤ 140737488355328 := by omega
      have hneg : ¬ ((a : Int) + (n' : Int) < 0) := by omega
      have HB : Hid (b = a + n') := h1
      have HB2 := Lib.hid hb
      clear hl hsl h1 ha hb
      go_wp2_with fail
      go_round
      case rel => exact ⟨k + 1, by omega, by go_num, by rw [← HB2.out, HB.out]; go_num⟩
      case measure => simp [intOf]; omega
    · obtain rfl : k = n := by omega
      have ht : Hid (ls.take k = ls) := List.take_of_length_le (by rw [H.out.1]; exact Nat.le_refl _)
      rw [ht.out]
      obtain ⟨T, hT⟩ : ∃ T, T = lens ls := ⟨_, rfl⟩
      rw [← hT] at hs hs1 ⊢
      (have HT := Lib.hid hT; clear hT)
      go_wp2_with fail
      (with_reducible refine (growBlock_nil _ T hs hs1).mono ?_)
      rintro e w1 ⟨v1, rfl, ho1, hf1⟩
      (have Ho1 := Lib.hid ho1; clear ho1; have Hf1 := Lib.hid hf1; clear hf1)
      go_wp2_with fail
      go_loopw [6, 27] (fun v i wr => ∃ j : Nat, j ≤ k ∧ i = .int .i64 j ∧ Hid (Own 1 eByte wr w.heap.size 5 v (ls.take j).flatten) ∧ Hid (Below w.heap.size w wr)) (fun _ i _ => k - (intOf i).toNat)
      case atStart => exact ⟨0, Nat.zero_le _, rfl, Ho1, Hf1⟩
      case round =>
        obtain ⟨j, hj, rfl, HO, HF⟩ := hrel
        by_cases hlt2 : j < k
        · obtain ⟨ad, rfl, hE⟩ := H.out.els (by omega)
          obtain ⟨A', n', c', l, hl, hcl, hm', hc1, hc2, hsl⟩ := hE.slC hlt2
          have hcw : wr.cell? (ad.add j) = some (.slice A' n' c') := (HF.out.cell (p := ad.add j) (by rw [block_of_add]; exact hE.2.1)).trans hcl
          have Hlen : Hid ((ls.take j).flatten.length + n' ≤ T) := by
            have h1 := lens_take_succ hl
            have h2 := lens_take_le ls (j + 1)
            rw [hsl.1] at h1
            have := HT.out
            rw [Hid, length_flatten_lens]; omega
          have HT2 : Hid ((ls.take (j + 1)).flatten = (ls.take j).flatten ++ l) := by rw [Hid, take_snoc' hl, List.flatten_append]; simp
          have HTb : Hid (T * 1 ≤ lim ∧ T ≤ lim) := ⟨hs, hs1⟩
          cases A' with
          | none =>
            have hn0 : n' = 0 := by
              rcases Nat.eq_zero_or_pos n' with h0 | h0
              · exact h0
              · obtain ⟨ad', e, _⟩ := hsl.2 h0; cases e
            subst hn0
            have hl0 : l = [] := List.eq_nil_of_length_eq_zero hsl.1
            subst hl0
            have HO3 : Hid (Own 1 eByte wr w.heap.size 5 u6 (ls.take (j + 1)).flatten) := by rw [HT2.out, List.append_nil]; exact HO.out
            clear hl hcl hsl
            go_wp2_with (at_builtin; refine wpList_apps_nil _ rfl _ _ 27 rfl w.heap.size 5 i0 Try.underlying27 Hi0.out _ _ c' rfl HO.out rfl ?_)
            go_roundw
            case rel => exact ⟨j + 1, by omega, by go_num, HO3, HF⟩
            case measure => simp [intOf]; omega
          | some adb =>
            obtain ⟨news, hnl, hnc, hn1, hnr⟩ : ∃ news : List Value, news.length = n' * 1 ∧ (∀ j u, news[j]? = some u → w.cell? (adb.add j) = some u ∧ adb.block < w.heap.size) ∧ (∀ u ∈ news, u.oneCell' = true) ∧ ∀ i x, l[i]? = some x → eByte w (LT w.heap.size) (fun j => news[i * 1 + j]?) x := by
              rcases Nat.eq_zero_or_pos n' with h0 | h0
              · have hl0 : l = [] := List.eq_nil_of_length_eq_zero (by rw [hsl.1]; exact h0)
                exact ⟨[], by simp [h0], fun j u hu => by simp at hu, fun u hu => by simp at hu, fun i x hx => by simp [hl0] at hx⟩
              · obtain ⟨ad', e, hE'⟩ := hsl.els h0
                injection e with e
                subst e
                obtain ⟨cs, k1, k2, k3, k4⟩ := hE'.cells fByte sByte (by decide)
                exact ⟨cs, k1, fun j u hu => ⟨k2 j u hu, hE'.2.1⟩, k3, k4⟩
            have hll := hsl.1
            have hfar : Hid (∀ b, b < w.heap.size → u6.ownBlock ≠ some b) := fun b hb => HO.out.far hb
            clear hl hcl hsl
            (have Hnl := Lib.hid hnl; clear hnl; have Hnc := Lib.hid hnc; clear hnc; have Hn1 := Lib.hid hn1; clear hn1; have Hnr := Lib.hid hnr; clear hnr; have Hll := Lib.hid hll; clear hll)
            go_wp2_with (at_builtin; refine wpList_apps _ rfl _ _ 27 rfl w.heap.size 5 _ _ _ Try.underlying27 infoByte rfl (by decide) sByte _ (ls.take j).flatten rfl HO.out adb n' c' news rfl Hnl.out ?c1 Hn1.out l Hll.out ?c3 ?c4 ?c5 ?c6 ?_)
            case c1 => intro i u hu; obtain ⟨k1, k2⟩ := Hnc.out i u hu; exact (HF.out.cell (by rw [block_of_add]; exact k2)).trans k1
            case c3 =>
              intro i x hx
              exact (sByte).more (S := LT w.heap.size) (fun b hb => ⟨Nat.lt_of_lt_of_le hb HF.out.size, hfar.out b hb⟩) ((sByte).keep (fun p hp => HF.out.cell hp) (Hnr.out i x hx))
            case c4 => have := Hlen.out; have q := HTb.out.2; unfold maxLen; unfold lim at q; omega
            case c5 => exact Nat.le_trans (Nat.mul_le_mul_right _ Hlen.out) HTb.out.1
            case c6 => exact HF.out.size
            · intro v' w3 ho3 hg3 hge3
              have HO3 : Hid (Own 1 eByte w3 w.heap.size 5 v' (ls.take (j + 1)).flatten) := by rw [HT2.out]; exact ho3
              have HF3 : Hid (Below w.heap.size w w3) := HF.out.grown hg3 HF.out.size hge3
              clear ho3 hg3 hge3
              go_wp2
              go_roundw
              case rel => exact ⟨j + 1, by omega, by go_num, HO3, HF3⟩
              case measure => simp [intOf]; omega
        · obtain rfl : j = k := by omega
          rw [ht.out] at HO
          go_wp2_with fail
          go_ret
          exact ⟨_, rfl, HO.out, HF.out⟩
end Go.Proofs.Ytnfjghldcopaaaa
namespace Go.Proofs.Ytnfjghldcopaaaa
open Go.RowKit

theorem blocks_alt {B K : Int} (hB : 1 ≤ B) (hK : 1 ≤ K) : blocksOf B K = B / K + (if 0 < B % K then 1 else 0) := by
  have e : blocksOf B K = (B - 1) / K + 1 := by unfold blocksOf; rw [if_neg (by omega)]
  have h1 := Int.mul_ediv_add_emod B K
  have h2 := Int.emod_nonneg B (show K ≠ 0 by omega)
  have h3 := Int.emod_lt_of_pos B (show 0 < K by omega)
  rw [e]
  generalize B / K = q at *
  generalize B % K = r at *
  split
  · have : B - 1 = (r - 1) + K * q := by omega
    rw [this, Int.add_mul_ediv_left _ _ (by omega), Int.ediv_eq_zero_of_lt (by omega) (by omega)]; omega
  · have : B - 1 = (K - 1) + K * (q - 1) := by rw [Int.mul_sub]; omega
    rw [this, Int.add_mul_ediv_left _ _ (by omega), Int.ediv_eq_zero_of_lt (by omega) (by omega)]; omega

set_option maxHeartbeats 400000 in
theorem refBlocks_any (w : World) (B K : Int) (hB : wfI B) (hK : wfI K) :
    Calls Try.prog 82 #[.agg #[.int .i64 B, .int .i64 K]] w fun e w' => e = .returned (.int .i64 (blocksOf B K)) ∧ Fr w w' := by
  obtain ⟨hB1, hB2⟩ := hB.bd
  obtain ⟨hK1, hK2⟩ := hK.bd
  by_cases h1 : B < 1
  · have E : Hid (blocksOf B K = 0) := if_pos (.inr h1)
    clear hB1 hB2 hK1 hK2
    go_enter Try.func82, Try.ntmps82
    go_wp2
    go_ret
    exact ⟨retI E.out.symm, (by (repeat' (first | exact Below.refl _ _ | refine below_drewN ?_ _ | refine Below.drew ?_ | refine frA ?_ _ | refine Fr.trans ?_ Hf1.out)))⟩
  · by_cases h2 : K < 1
    · have E : Hid (blocksOf B K = 0) := if_pos (.inl h2)
      clear hB1 hB2 hK1 hK2
      go_enter Try.func82, Try.ntmps82
      go_wp2
      go_ret
      exact ⟨retI E.out.symm, (by (repeat' (first | exact Below.refl _ _ | refine below_drewN ?_ _ | refine Below.drew ?_ | refine frA ?_ _ | refine Fr.trans ?_ Hf1.out)))⟩
    · have E := Lib.hid (blocks_alt (B := B) (K := K) (by omega) (by omega))
      have h3 := Int.ediv_le_self K (show 0 ≤ B by omega)
      have h4 := Int.ediv_nonneg (show 0 ≤ B by omega) (show 0 ≤ K by omega)
      have h5 := Int.emod_lt_of_pos B (show 0 < K by omega)
      have h6 : 0 < B % K → B / K + 1 ≤ 9223372036854775807 := by
        intro h7
        have e1 := Int.mul_ediv_add_emod B K
        have e2 : 2 ≤ K := by omega
        have e3 : 2 * (B / K) ≤ K * (B / K) := Int.mul_le_mul_of_nonneg_right e2 h4
        generalize B / K = q at *
        generalize B % K = r at *
        generalize K * q = z at *
        omega
      by_cases h7 : 0 < B % K
      · have E2 := Lib.hid h7
        have h8 := h6 h7
        clear hB1 hK1 hK2 h5 h6
        go_enter Try.func82, Try.ntmps82
        go_wp2
        go_ret
        exact ⟨retI (by rw [E.out, if_pos E2.out]), (by (repeat' (first | exact Below.refl _ _ | refine below_drewN ?_ _ | refine Below.drew ?_ | refine frA ?_ _ | refine Fr.trans ?_ Hf1.out)))⟩
      · have E2 := Lib.hid h7
        clear hB1 hK1 hK2 h5 h6
        go_enter Try.func82, Try.ntmps82
        go_wp2
        go_ret
        exact ⟨retI (by rw [E.out, if_neg (Int.not_lt.2 E2.out)]; omega), (by (repeat' (first | exact Below.refl _ _ | refine below_drewN ?_ _ | refine Below.drew ?_ | refine frA ?_ _ | refine Fr.trans ?_ Hf1.out)))⟩

set_option maxHeartbeats 400000 in
theorem refCheckPlan_any (w : World) (B K : Int) (hB : wfI B) (hK : wfI K) :
    Calls Try.prog 80 #[.agg #[.int .i64 B, .int .i64 K]] w fun e w' => e = .returned (.int .i64 (cutCheck B K)) ∧ Fr w w' := by
  by_cases h : B < 1 ∨ 360 < B ∨ K < 1 ∨ 16 < K
  · have E : Hid (cutCheck B K = 3) := if_pos h
    by_cases h1 : 1 ≤ B ∧ B ≤ 360
    · have r1 := inR_t h1
      have r2 : inR K 1 16 = false := inR_f (by omega)
      clear h h1
      go_enter Try.func80, Try.ntmps80
      go_wp2_with (go_at_call 61; refine (in_any _ _ _ _).mono ?_; rintro e w' ⟨rfl, rfl⟩)
      go_ret
      exact ⟨retI E.out.symm, (by (repeat' (first | exact Below.refl _ _ | refine below_drewN ?_ _ | refine Below.drew ?_ | refine frA ?_ _ | refine Fr.trans ?_ Hf1.out)))⟩
    · have r1 : inR B 1 360 = false := inR_f h1
      clear h h1
      go_enter Try.func80, Try.ntmps80
      go_wp2_with (go_at_call 61; refine (in_any _ _ _ _).mono ?_; rintro e w' ⟨rfl, rfl⟩)
      go_ret
      exact ⟨retI E.out.symm, (by (repeat' (first | exact Below.refl _ _ | refine below_drewN ?_ _ | refine Below.drew ?_ | refine frA ?_ _ | refine Fr.trans ?_ Hf1.out)))⟩
  · have r1 : inR B 1 360 = true := inR_t (by omega)
    have r2 : inR K 1 16 = true := inR_t (by omega)
    have E : Hid (cutCheck B K = if 24 < blocksOf B K then 2 else 0) := if_neg h
    clear h
    by_cases h5 : 24 < blocksOf B K
    all_goals
      have E2 := Lib.hid h5
      go_enter Try.func80, Try.ntmps80
      go_wp2_with (first | (go_at_call 61; refine (in_any _ _ _ _).mono ?_; rintro e w' ⟨rfl, rfl⟩) | (go_at_call 82; refine (refBlocks_any _ _ _ hB hK).mono ?_; rintro e w1 ⟨rfl, hf1⟩; have Hf1 := Lib.hid hf1; clear hf1))
      go_ret
      exact ⟨retI (by rw [E.out]; simp [E2.out]), (by (repeat' (first | exact Below.refl _ _ | refine below_drewN ?_ _ | refine Below.drew ?_ | refine frA ?_ _ | refine Fr.trans ?_ Hf1.out)))⟩

/-- A block, as far as it is filled. -/
def fillTo (p : List UInt8) (k : Nat) : List UInt8 := p.take k ++ List.replicate (p.length - k) 0
theorem fillTo_zero (p : List UInt8) : fillTo p 0 = List.replicate p.length 0 := by simp [fillTo]
theorem fillTo_all (p : List UInt8) {k : Nat} (h : p.length ≤ k) : fillTo p k = p := by simp [fillTo, List.take_of_length_le h, Nat.sub_eq_zero_of_le h]
theorem length_fillTo (p : List UInt8) {k : Nat} (h : k ≤ p.length) : (fillTo p k).length = p.length := by simp [fillTo]; omega
theorem fillTo_get (p : List UInt8) {k : Nat} (h : k < p.length) : (fillTo p k)[k]? = some 0 := by
  unfold fillTo
  rw [List.getElem?_append_right (by rw [List.length_take]; omega), List.length_take, Nat.min_eq_left (by omega), Nat.sub_self]
  rw [List.getElem?_replicate, if_pos (by omega)]
theorem fillTo_set (p : List UInt8) {k : Nat} {x : UInt8} (h : p[k]? = some x) : (fillTo p k).set k x = fillTo p (k + 1) := by
  have hk := (List.getElem?_eq_some_iff.1 h).1
  unfold fillTo
  rw [List.set_append_right _ _ (by rw [List.length_take]; omega), List.length_take, Nat.min_eq_left (by omega), Nat.sub_self, take_snoc' h, List.append_assoc]
  obtain ⟨m, hm⟩ : ∃ m, p.length - k = m + 1 := ⟨p.length - k - 1, by omega⟩
  rw [hm, List.replicate_succ, List.set_cons_zero, show p.length - (k + 1) = m from by omega]; rfl
theorem fillTo_skip (p : List UInt8) {k : Nat} (h : p[k]? = some 0) : fillTo p k = fillTo p (k + 1) := by
  rw [← fillTo_set p h]
  apply List.ext_getElem?
  intro i
  by_cases hi : i = k
  · subst hi
    have hk := (List.getElem?_eq_some_iff.1 h).1
    rw [List.getElem?_set_self (by rw [length_fillTo p (by omega)]; exact hk), fillTo_get p hk]
  · rw [List.getElem?_set_ne (fun e => hi e.symm)]

/-- The blocks of a cargo, one by one. -/
theorem cutF_get {K : Nat} (hK : 1 ≤ K) : ∀ f c i, c.length ≤ f → i * K < c.length → (cutF K f c)[i]? = some (padTo K ((c.drop (i * K)).take K))
  | 0, c, i, h, hi => by omega
  | f + 1, c, 0, h, hi => by rw [cutF, if_neg (by omega)]; simp
  | f + 1, c, i + 1, h, hi => by
    rw [Nat.add_mul, Nat.one_mul] at hi
    rw [cutF, if_neg (by omega), List.getElem?_cons_succ, cutF_get hK f (c.drop K) i (by rw [List.length_drop]; omega) (by rw [List.length_drop]; omega), List.drop_drop, Nat.add_mul, Nat.one_mul, Nat.add_comm K]
theorem padTo_get {K k : Nat} {c : List UInt8} (h : k < K) (hc : c.length ≤ K) : (padTo K c)[k]? = some (c.getD k 0) := by
  unfold padTo
  by_cases hk : k < c.length
  · rw [List.getElem?_append_left hk, List.getElem?_eq_getElem hk]; simp [hk]
  · rw [List.getElem?_append_right (by omega), List.getElem?_replicate, if_pos (by omega)]; simp [List.getElem?_eq_none (show c.length ≤ k by omega)]
theorem cut_count {n K : Nat} {c : List UInt8} (hck : cutCheck n K = 0) (hl : c.length = n) {m : Nat} (hm : (m : Int) = blocksOf n K) : (cutF K n c).length = m ∧ ∀ i, i < m → i * K < n := by
  obtain ⟨⟨h1, h2⟩, ⟨h3, h4⟩, _, _, h5⟩ := cutCheck_ok hck
  have hK : 1 ≤ K := by omega
  have e : m = (n - 1) / K + 1 := by
    have : ((n : Int) - 1) / K = (((n - 1) / K : Nat) : Int) := by
      rw [show ((n : Int) - 1) = ((n - 1 : Nat) : Int) from by omega]; simp
    omega
  refine ⟨?_, fun i hi => ?_⟩
  · rw [cutF_length hK n c (by omega), hl, e, show n + K - 1 = (n - 1) + K from by omega, Nat.add_div_right _ (by omega)]
  · have : i ≤ (n - 1) / K := by omega
    have := (Nat.le_div_iff_mul_le (by omega)).1 this
    omega

set_option maxHeartbeats 2000000 in
theorem refCutUp_ok (w : World) (A : Option Addr) (n c K : Nat) (cargo : List UInt8) (h : Sl 1 eByte w (LT w.heap.size) A n cargo) (hck : cutCheck n K = 0) :
    Calls Try.prog 77 #[.agg #[.int .i64 n, .int .i64 K], .slice A n c] w fun e w' => ∃ v, e = .returned (.tuple #[v, .int .i64 0]) ∧ Own 1 eBlock w' w.heap.size 27 v (cutF K n cargo) ∧ Fr w w' := by
  obtain ⟨⟨h1, h2⟩, ⟨h3, h4⟩, h5, h6, _⟩ := cutCheck_ok hck
  have CC := Lib.hid (fun W : World => refCheckPlan_any W (n : Int) (K : Int) (wfI.mk (by omega)) (wfI.mk (by omega)))
  rw [hck] at CC
  have CB := Lib.hid (fun W : World => refBlocks_any W (n : Int) (K : Int) (wfI.mk (by omega)) (wfI.mk (by omega)))
  obtain ⟨m, hm⟩ : ∃ m : Nat, (m : Int) = blocksOf n K := ⟨(blocksOf n K).toNat, Int.toNat_of_nonneg (by omega)⟩
  rw [← hm] at CB
  have hn1 : 1 ≤ n ∧ n ≤ 360 := by omega
  have hK1 : 1 ≤ K ∧ K ≤ 16 := by omega
  obtain ⟨hn1, hn2⟩ := hn1
  obtain ⟨hK1, hK2⟩ := hK1
  have hm24 : m ≤ 24 := by omega
  obtain ⟨hc1, hc2⟩ := cut_count hck h.1 hm
  have hlen := h.1
  have hne : ((n : Int) != (n : Int)) = false := by simp
  have hmk := run_make_ca (P := Try.prog) bV 0 27 5 1 Try.underlying27 infoByte rfl .i64 .i64 K (by omega) (by omega)
  obtain ⟨ad, rfl, hE⟩ := h.els (by omega)
  clear h1 h2 h3 h4 h5 h6
  (have H := Lib.hid h; clear h; have Hck := Lib.hid hck; clear hck; have Hm := Lib.hid hm; clear hm; have Hc1 := Lib.hid hc1; clear hc1; have Hc2 := Lib.hid hc2; clear hc2; have Hlen := Lib.hid hlen; clear hlen)
  go_enter Try.func77, Try.ntmps77
  go_wp2_with fail
  refine (CC.out _).mono ?_
  rintro e w1 ⟨rfl, hf1⟩
  have hf0 : Fr w w1 := (frAlloc _ _).trans hf1
  obtain ⟨hb0, hb1⟩ := box2 hf1
  (have Hf1 := Lib.hid hf1; clear hf1; have Hf0 := Lib.hid hf0; clear hf0)
  go_wp2_with fail
  refine (CB.out _).mono ?_
  rintro e w2 ⟨rfl, hf2⟩
  have hb0 := (hf2.cell (World.block_lt_of_cell? w1 _ hb0)).trans hb0
  have hb1 := (hf2.cell (World.block_lt_of_cell? w1 _ hb1)).trans hb1
  have hf02 : Fr w w2 := Hf0.out.trans hf2
  clear hf2
  (have Hf02 := Lib.hid hf02; clear hf02)
  go_wp2_with fail
  go_loopw [7, 24] (fun v i wr => ∃ k : Nat, k ≤ m ∧ i = .int .i64 k ∧ Hid (Own 1 eBlock wr w2.heap.size 27 v ((cutF K n cargo).take k)) ∧ Hid (Fr w2 wr)) (fun _ i _ => m - (intOf i).toNat)
  case atStart => exact ⟨0, Nat.zero_le _, rfl, Own.nil, Below.refl _ _⟩
  case round =>
    obtain ⟨k, hk, rfl, HO, HF⟩ := hrel
    have hb0' : wr.cell? ⟨w.heap.size, 0, none⟩ = some (.int .i64 n) := (HF.out.cell (World.block_lt_of_cell? w2 _ hb0)).trans hb0
    have hb1' : wr.cell? ⟨w.heap.size, 1, none⟩ = some (.int .i64 K) := (HF.out.cell (World.block_lt_of_cell? w2 _ hb1)).trans hb1
    by_cases hlt : k < m
    · obtain ⟨p, hp⟩ : ∃ p, p = padTo K ((cargo.drop (k * K)).take K) := ⟨_, rfl⟩
      have hkK := Hc2.out k hlt
      have HPK : Hid ((cutF K n cargo)[k]? = some p) := by
        rw [Hid, hp]; exact cutF_get hK1 n cargo k (by have := Hlen.out; omega) (by have := Hlen.out; omega)
      have Hpl : Hid (p.length = K) := by rw [Hid, hp]; exact length_padTo (by rw [List.length_take]; omega)
      have Hpg : Hid (∀ j, j < K → p[j]? = some (cargo.getD (k * K + j) 0)) := by
        intro j hj
        rw [hp, padTo_get hj (by rw [List.length_take]; omega)]
        simp [List.getD, List.getElem?_take, hj, List.getElem?_drop]
      have hkK2 : k * K ≤ 360 := by omega
      obtain ⟨T, hT⟩ : ∃ T, T = k * K := ⟨_, rfl⟩
      rw [← hT] at Hpg hkK2
      have hw1 : wrap64 ((k : Int) * (K : Int)) = (T : Int) := by rw [← Int.natCast_mul, ← hT]; exact IntWalk.wrap64_in _ (by omega)
      clear hkK
      (have HT := Lib.hid hT; clear hT)
      have hhs := HF.out.size
      clear hp
      obtain ⟨wo, rfl⟩ : ∃ wo : World, wo = wr := ⟨_, rfl⟩
      go_wp2_with fail
      go_loopw [32] (fun j wr => ∃ q : Nat, q ≤ K ∧ j = .int .i64 q ∧ Hid (wr.heap[wo.heap.size]? = some (.cells (ca bV (fillTo p q)) 5 (0, 0))) ∧ Hid (Fr wo wr)) (fun j _ => K - (intOf j).toNat)
      case atStart => exact ⟨0, Nat.zero_le _, rfl, by rw [Hid, fillTo_zero, Hpl.out]; exact heap_new rfl, frAlloc _ _⟩
      case round =>
        obtain ⟨q, hq, rfl, HG, HQ⟩ := hrel
        have hb1'' : wr.cell? ⟨w.heap.size, 1, none⟩ = some (.int .i64 K) := (HQ.out.cell (World.block_lt_of_cell? wo _ hb1')).trans hb1'
        by_cases hql : q < K
        · have hpq := Hpg.out q hql
          by_cases hqn : T + q < n
          · obtain ⟨x, hx, hcx⟩ := hE.byte hqn
            have hcx2 : wr.cell? (ad.add (T + q)) = some (.int .u8 (x.toNat : Int)) := ((((Hf02.out.trans HF.out).trans HQ.out)).cell (p := ad.add (T + q)) (by rw [block_of_add]; exact hE.2.1)).trans hcx
            have hcg := ca_cell HG.out (fillTo_get p (show q < p.length by rw [Hpl.out]; exact hql))
            have hfg : wr.frozen? ⟨wo.heap.size, q, none⟩ = false := ca_free HG.out
            have R : Hid ((wr.setCell ⟨wo.heap.size, q, none⟩ (bV x)).heap[wo.heap.size]? = some (.cells (ca bV (fillTo p (q + 1))) 5 (0, 0))) := by
              rw [Hid, ← fillTo_set p (x := x) (by rw [hpq]; simp [hx])]
              exact ca_set HG.out
            have R2 : Hid (Fr wo (wr.setCell ⟨wo.heap.size, q, none⟩ (bV x))) := HQ.out.setCell (Nat.le_refl _) _
            have hqi : (T : Int) + (q : Int) < (n : Int) := by omega
            clear hx hcx hpq
            go_wp2_with fail
            go_roundw
            case rel => exact ⟨q + 1, by omega, by go_num, R, R2⟩
            case measure => simp [intOf]; omega
          · have R : Hid (wr.heap[wo.heap.size]? = some (.cells (ca bV (fillTo p (q + 1))) 5 (0, 0))) := by
              rw [Hid, ← fillTo_skip p]
              · exact HG.out
              · rw [hpq]; simp [List.getElem?_eq_none (show cargo.length ≤ T + q by have := Hlen.out; omega)]
            have hqi : ¬ (T : Int) + (q : Int) < (n : Int) := by omega
            clear hpq
            go_wp2_with fail
            go_roundw
            case rel => exact ⟨q + 1, by omega, by go_num, R, HQ⟩
            case measure => simp [intOf]; omega
        · obtain rfl : q = K := by omega
          have HP : Hid (wr.heap[wo.heap.size]? = some (.cells (ca bV p) 5 (0, 0))) := by rw [Hid, ← fillTo_all p (k := q) (by rw [Hpl.out]; exact Nat.le_refl _)]; exact HG.out
          have HOr : Hid (Own 1 eBlock wr w2.heap.size 27 u7 ((cutF q n cargo).take k)) := HO.out.fr wBlock HQ.out
          have HFr : Hid (Fr w2 wr) := HF.out.trans HQ.out
          have HY : Hid (eBlock wr (fun b => b < wr.heap.size ∧ u7.ownBlock ≠ some b) (fun j => [Value.slice (some ⟨wo.heap.size, 0, none⟩) q q][j]?) p) := by
            refine ⟨_, _, _, rfl, ⟨by unfold lim; omega, Nat.le_refl _, by unfold maxLen; omega⟩, ca_bytes HP.out ⟨ca_lt HP.out, fun e => ?_⟩ Hpl.out⟩
            obtain ⟨cs, ho, _⟩ := HO.out
            have := (ho.lt _ e).2
            omega
          have Hll : Hid (((cutF q n cargo).take k).length + 1 ≤ 25) := by rw [Hid, List.length_take]; omega
          have HT2 : Hid ((cutF q n cargo).take (k + 1) = (cutF q n cargo).take k ++ [p]) := take_snoc' HPK.out
          clear HG
          go_wp2_with (at_builtin; refine wpList_app1 rfl _ _ 35 rfl w2.heap.size 27 (.slice none 0 0) 24 Try.underlying35 infoBlock rfl (by decide) wBlock wr (frAlloc _ _) _ ((cutF q n cargo).take k) rfl HOr.out wr.heap.size [.slice (some ⟨wo.heap.size, 0, none⟩) q q] 27 (0, 0) rfl (heap_new rfl) rfl ?c1 p HY.out ?c2 ?c3 w2.heap.size w2 HFr.out (Nat.le_refl _) HFr.out.size ?_)
          case c1 => simp [Value.oneCell']
          case c2 => have := Hll.out; unfold maxLen; omega
          case c3 => have := Hll.out; unfold lim; omega
          intro v' w3 HO3 HF3
          rw [← HT2.out] at HO3
          go_wp2_with fail
          go_roundw
          case rel => exact ⟨k + 1, by omega, by go_num, HO3, HF3⟩
          case measure => simp [intOf]; omega
    · obtain rfl : k = m := by omega
      have HF5 : Hid (Own 1 eBlock wr w.heap.size 27 u7 (cutF K n cargo)) := by
        have := HO.out.lower (base' := w.heap.size) Hf02.out.size
        rw [List.take_of_length_le (by rw [Hc1.out]; exact Nat.le_refl _)] at this
        exact this
      go_wp2_with fail
      go_ret2
      exact ⟨u7, rfl, HF5.out, Hf02.out.trans HF.out⟩

set_option maxHeartbeats 400000 in
/-- What the reference's CutUp answers. -/
theorem refCutUp_any (w : World) (A : Option Addr) (n c : Nat) (B K : Int) (cargo : List UInt8) (h : Sl 1 eByte w (LT w.heap.size) A n cargo) (wB : wfI B) (wK : wfI K) :
    Calls Try.prog 77 #[.agg #[.int .i64 B, .int .i64 K], .slice A n c] w fun e w' => ∃ v, e = .returned (.tuple #[v, .int .i64 (cutUp B K cargo).2]) ∧ Own 1 eBlock w' w.heap.size 27 v (cutUp B K cargo).1 ∧ Fr w w' := by
  have hl := h.1
  by_cases hck : cutCheck B K = 0
  · by_cases hn : (n : Int) = B
    · subst hn
      obtain ⟨k, rfl⟩ := Int.eq_ofNat_of_zero_le (show 0 ≤ K by have := (cutCheck_ok hck).2.1; omega)
      have E : cutUp n k cargo = (cutF k n cargo, 0) := by
        unfold cutUp
        rw [if_neg (by simp [hck]), if_neg (by simp [hl]), hl]
        rfl
      rw [E]
      exact refCutUp_ok w A n c k cargo h hck
    · have E : Hid (cutUp B K cargo = ([], 4)) := by
        unfold cutUp Hid
        rw [if_neg (by simp [hck]), if_pos (by rw [hl]; exact hn)]
      have CC := Lib.hid (fun W : World => refCheckPlan_any W B K wB wK)
      rw [hck] at CC
      have hne : ((n : Int) != B) = true := by rw [bne_iff_ne]; exact hn
      clear hck hn hl h
      go_enter Try.func77, Try.ntmps77
      go_wp2_with fail
      refine (CC.out _).mono ?_
      rintro e w1 ⟨rfl, hf1⟩
      have hf0 : Fr w w1 := (frAlloc _ _).trans hf1
      obtain ⟨hb0, hb1⟩ := box2 hf1
      (have Hf1 := Lib.hid hf1; clear hf1; have Hf0 := Lib.hid hf0; clear hf0)
      go_wp2_with fail
      go_ret2
      rw [E.out]
      exact ⟨_, rfl, Own.nil, Hf0.out⟩
  · have E : Hid (cutUp B K cargo = ([], cutCheck B K)) := if_pos hck
    have CC := Lib.hid (fun W : World => refCheckPlan_any W B K wB wK)
    have hne : (cutCheck B K != 0) = true := by rw [bne_iff_ne]; exact hck
    clear hck hl h
    go_enter Try.func77, Try.ntmps77
    go_wp2_with fail
    refine (CC.out _).mono ?_
    rintro e w1 ⟨rfl, hf1⟩
    have hf0 : Fr w w1 := (frAlloc _ _).trans hf1
    obtain ⟨hb0, hb1⟩ := box2 hf1
    (have Hf1 := Lib.hid hf1; clear hf1; have Hf0 := Lib.hid hf0; clear hf0)
    go_wp2_with fail
    go_ret2
    rw [E.out]
    exact ⟨_, rfl, Own.nil, Hf0.out⟩

set_option maxHeartbeats 2000000 in
theorem refJoined_body (w : World) (A : Option Addr) (n c B K : Nat) (ls : List (List UInt8)) (h : Sl 1 eBlock w (LT w.heap.size) A n ls) (hck : cutCheck B K = 0) (hn : (n : Int) = blocksOf B K) (hs : lens ls ≤ lim) :
    Calls Try.prog 86 #[.agg #[.int .i64 B, .int .i64 K], .slice A n c] w fun e w' => ∃ A' n' c', e = .returned (.tuple #[.slice A' n' c', .int .i64 (joinUp B K ls).2]) ∧ n' ≤ 360 ∧ n' ≤ c' ∧ c' ≤ maxLen ∧ Sl 1 eByte w' (LT w'.heap.size) A' n' (joinUp B K ls).1 ∧ Fr w w' := by
  obtain ⟨⟨h1, h2⟩, ⟨h3, h4⟩, h5, h6, _⟩ := cutCheck_ok hck
  have CC := Lib.hid (fun W : World => refCheckPlan_any W (B : Int) (K : Int) (wfI.mk (by omega)) (wfI.mk (by omega)))
  rw [hck] at CC
  have CB := Lib.hid (fun W : World => refBlocks_any W (B : Int) (K : Int) (wfI.mk (by omega)) (wfI.mk (by omega)))
  rw [← hn] at CB
  have hlen := h.1
  obtain ⟨hm1, hm2⟩ := blocks_hold hck hn
  have hb : 1 ≤ B ∧ B ≤ 360 ∧ 1 ≤ K ∧ K ≤ 16 ∧ 1 ≤ n := by omega
  obtain ⟨hB1, hB2, hK1, hK2, hn1⟩ := hb
  have HN : Hid ((ls.length : Int) = blocksOf B K) := by rw [Hid, hlen]; exact hn
  have hne : ((n : Int) != (n : Int)) = false := by simp
  have hnl : n ≤ lim := by unfold lim; omega
  have hsl : lens ls * 1 ≤ lim := by rw [Nat.mul_one]; exact hs
  clear h1 h2 h3 h4 h5 h6 hn
  (have H := Lib.hid h; clear h; have Hck := Lib.hid hck; clear hck; have Hlen := Lib.hid hlen; clear hlen; have Hs := Lib.hid hs; clear hs; have Hsl := Lib.hid hsl; clear hsl; have Hnl := Lib.hid hnl; clear hnl)
  go_enter Try.func86, Try.ntmps86
  go_wp2_with fail
  refine (CC.out _).mono ?_
  rintro e w1 ⟨rfl, hf1⟩
  have hf0 : Fr w w1 := (frAlloc _ _).trans hf1
  obtain ⟨hb0, hb1⟩ := box2 hf1
  (have Hf1 := Lib.hid hf1; clear hf1; have Hf0 := Lib.hid hf0; clear hf0)
  go_wp2_with fail
  refine (CB.out _).mono ?_
  rintro e w2 ⟨rfl, hf2⟩
  have hb0 := (hf2.cell (World.block_lt_of_cell? w1 _ hb0)).trans hb0
  have hb1 := (hf2.cell (World.block_lt_of_cell? w1 _ hb1)).trans hb1
  have hs2 := H.out.go wBlock (Hf0.out.trans hf2)
  (have Hf2 := Lib.hid hf2; clear hf2; have Hs2 := Lib.hid hs2; clear hs2)
  go_wp2_with fail
  (with_reducible refine (concatBlock_any _ _ _ _ ls Hs2.out Hnl.out Hsl.out Hs.out).mono ?_)
  rintro e w3 ⟨v3, rfl, ho3, hf3⟩
  have hb0 := (hf3.cell (World.block_lt_of_cell? w2 _ hb0)).trans hb0
  have hb1 := (hf3.cell (World.block_lt_of_cell? w2 _ hb1)).trans hb1
  have hs3 := Hs2.out.go wBlock hf3
  have hF3 : Fr w w3 := ((Hf0.out.trans Hf2.out).trans hf3)
  obtain ⟨X, hX⟩ : ∃ X, X = ls.flatten := ⟨_, rfl⟩
  rw [← hX] at ho3
  obtain ⟨A3, c3, rfl, hc3, hsX⟩ := ho3.slC sByte (by decide)
  (have Hf3 := Lib.hid hf3; clear hf3; have Hs3 := Lib.hid hs3; clear hs3; have HF3 := Lib.hid hF3; clear hF3; have Ho3 := Lib.hid ho3; clear ho3; have HsX := Lib.hid hsX; clear hsX; have HX := Lib.hid hX; clear hX; have Hc3 := Lib.hid hc3; clear hc3)
  obtain ⟨ad, rfl, hE⟩ := Hs3.out.els (by omega)
  go_wp2_with fail
  go_loop [25] (fun i => ∃ k : Nat, k ≤ n ∧ i = .int .i64 k ∧ Hid (∀ b ∈ ls.take k, b.length = K)) (fun i => n - (intOf i).toNat)
  case atStart => exact ⟨0, Nat.zero_le _, rfl, by simp [Hid]⟩
  case round =>
    obtain ⟨k, hk, rfl, HL⟩ := hrel
    by_cases hlt : k < n
    · obtain ⟨A', n', c', l, hl, hcl, hm', hs⟩ := hE.block hlt
      by_cases hnK : n' = K
      · subst hnK
        have hne2 : ((n' : Int) != (n' : Int)) = false := by simp
        have HL' : Hid (∀ b ∈ ls.take (k + 1), b.length = n') := by
          intro b hb
          rw [take_snoc' hl] at hb
          rcases List.mem_append.1 hb with hb | hb
          · exact HL.out b hb
          · rw [List.mem_singleton.1 hb]; exact hs.1
        clear hl hs
        go_wp2_with fail
        go_round
        case rel => exact ⟨k + 1, by omega, by go_num, HL'⟩
        case measure => simp [intOf]; omega
      · have hne2 : ((n' : Int) != (K : Int)) = true := by rw [bne_iff_ne]; omega
        have E : Hid (joinUp B K ls = ([], 4)) := join_form Hck.out HN.out (List.mem_of_getElem? hl) (by rw [hs.1]; omega)
        clear hl hs hnK
        go_wp2_with fail
        go_ret2
        rw [E.out]
        exact ⟨none, 0, 0, rfl, by omega, by omega, by unfold maxLen; omega, Sl.nil, HF3.out⟩
    · obtain rfl : k = n := by omega
      have ht : Hid (ls.take k = ls) := List.take_of_length_le (by have := Hlen.out; omega)
      rw [ht.out] at HL
      have HHL : Hid (∀ b ∈ ls, (b.length : Int) = K) := fun b hb => by rw [HL.out b hb]
      obtain ⟨T, hT⟩ : ∃ T, T = X.length := ⟨_, rfl⟩
      have hkK : k * K ≤ 24 * 16 := Nat.mul_le_mul (by omega) hK2
      have hTk : T = k * K := by rw [hT, HX.out, length_flatten HL.out, Hlen.out]
      have hBT : B ≤ T := by omega
      have hT2 : T ≤ 384 := by omega
      rw [← hT] at HsX Hc3 ⊢
      obtain ⟨adX, rfl, hXE⟩ := HsX.out.els (by omega)
      have HPRE : Hid (Sl 1 eByte w3 (LT w3.heap.size) (some adX) B (X.take B)) := hXE.sl.pre hBT
      have hc3' : T ≤ c3 := Hc3.out.1
      have hc3'' : B ≤ c3 := by omega
      clear hTk
      (have HT := Lib.hid hT; clear hT)
      go_wp2_with fail
      go_loop [10] (fun i => ∃ j : Nat, B ≤ j ∧ j ≤ T ∧ i = .int .i64 j ∧ Hid (∀ x ∈ (X.drop B).take (j - B), x = 0)) (fun i => T - (intOf i).toNat)
      case atStart => exact ⟨B, Nat.le_refl _, hBT, rfl, by simp [Hid]⟩
      case round =>
        obtain ⟨j, hBj, hj, rfl, HZ⟩ := hrel
        by_cases hlt : j < T
        · obtain ⟨x, hx, hcx⟩ := hXE.byte hlt
          have hxd : (X.drop B)[j - B]? = some x := by rw [List.getElem?_drop, show B + (j - B) = j from by omega]; exact hx
          by_cases hx0 : x = 0
          · subst hx0
            have HZ' : Hid (∀ x ∈ (X.drop B).take (j + 1 - B), x = 0) := by
              intro y hy
              rw [show j + 1 - B = (j - B) + 1 from by omega, take_snoc' hxd] at hy
              rcases List.mem_append.1 hy with hy | hy
              · exact HZ.out y hy
              · exact List.mem_singleton.1 hy
            have hcx2 : w3.cell? (adX.add j) = some (.int .u8 0) := hcx
            clear hx hcx hxd
            go_wp2_with fail
            go_round
            case rel => exact ⟨j + 1, by omega, by omega, by go_num, HZ'⟩
            case measure => simp [intOf]; omega
          · have hxb : ((x.toNat : Int) != 0) = true := by
              rw [bne_iff_ne]; intro e; exact hx0 (UInt8.toNat_inj.1 (by simpa using e))
            have E : Hid (joinUp B K ls = ([], 4)) := join_behind Hck.out HN.out HHL.out (x := x) (i := j - B) (by rw [← HX.out]; exact hxd) hx0
            clear hx hx0 hxd
            go_wp2_with fail
            go_ret2
            rw [E.out]
            exact ⟨none, 0, 0, rfl, by omega, by omega, by unfold maxLen; omega, Sl.nil, HF3.out⟩
        · have E : Hid (joinUp B K ls = (X.take B, 0)) := by
            rw [HX.out]
            refine join_ok Hck.out HN.out HHL.out fun x hx => HZ.out x ?_
            rw [List.take_of_length_le (by rw [List.length_drop, ← HT.out]; omega), HX.out]
            exact hx
          go_wp2_with fail
          go_ret2
          rw [E.out]
          exact ⟨some adX, B, c3, rfl, hB2, hc3'', Hc3.out.2, HPRE.out, HF3.out⟩

set_option maxHeartbeats 400000 in
/-- What the reference's Joined answers. -/
theorem refJoined_any (w : World) (A : Option Addr) (n c : Nat) (B K : Int) (ls : List (List UInt8)) (h : Sl 1 eBlock w (LT w.heap.size) A n ls) (hs : lens ls ≤ lim) (wB : wfI B) (wK : wfI K) :
    Calls Try.prog 86 #[.agg #[.int .i64 B, .int .i64 K], .slice A n c] w fun e w' => ∃ A' n' c', e = .returned (.tuple #[.slice A' n' c', .int .i64 (joinUp B K ls).2]) ∧ n' ≤ 360 ∧ n' ≤ c' ∧ c' ≤ maxLen ∧ Sl 1 eByte w' (LT w'.heap.size) A' n' (joinUp B K ls).1 ∧ Fr w w' := by
  have hl := h.1
  by_cases hck : cutCheck B K = 0
  · obtain ⟨b, rfl⟩ := Int.eq_ofNat_of_zero_le (show 0 ≤ B by have := (cutCheck_ok hck).1; omega)
    obtain ⟨k, rfl⟩ := Int.eq_ofNat_of_zero_le (show 0 ≤ K by have := (cutCheck_ok hck).2.1; omega)
    by_cases hn : (n : Int) = blocksOf b k
    · exact refJoined_body w A n c b k ls h hck hn hs
    · have E : Hid (joinUp b k ls = ([], 8)) := join_short hck (by rw [hl]; exact hn)
      have CC := Lib.hid (fun W : World => refCheckPlan_any W b k wB wK)
      rw [hck] at CC
      have CB := Lib.hid (fun W : World => refBlocks_any W b k wB wK)
      obtain ⟨q, hq⟩ : ∃ q, q = blocksOf b k := ⟨_, rfl⟩
      rw [← hq] at hn CB
      have hne : ((n : Int) != q) = true := by rw [bne_iff_ne]; exact hn
      clear hck hn hl h hq
      go_enter Try.func86, Try.ntmps86
      go_wp2_with fail
      refine (CC.out _).mono ?_
      rintro e w1 ⟨rfl, hf1⟩
      have hf0 : Fr w w1 := (frAlloc _ _).trans hf1
      obtain ⟨hb0, hb1⟩ := box2 hf1
      (have Hf1 := Lib.hid hf1; clear hf1; have Hf0 := Lib.hid hf0; clear hf0)
      go_wp2_with fail
      refine (CB.out _).mono ?_
      rintro e w2 ⟨rfl, hf2⟩
      (have Hf2 := Lib.hid hf2; clear hf2)
      go_wp2_with fail
      go_ret2
      rw [E.out]
      exact ⟨none, 0, 0, rfl, by omega, by omega, by unfold maxLen; omega, Sl.nil, by (repeat' (first | exact Below.refl _ _ | refine below_drewN ?_ _ | refine Below.drew ?_ | refine frA ?_ _ | refine Fr.trans ?_ Hf2.out | refine Fr.trans ?_ Hf0.out))⟩
  · have E : Hid (joinUp B K ls = ([], cutCheck B K)) := join_err hck
    have CC := Lib.hid (fun W : World => refCheckPlan_any W B K wB wK)
    have hne : (cutCheck B K != 0) = true := by rw [bne_iff_ne]; exact hck
    clear hck hl h
    go_enter Try.func86, Try.ntmps86
    go_wp2_with fail
    refine (CC.out _).mono ?_
    rintro e w1 ⟨rfl, hf1⟩
    have hf0 : Fr w w1 := (frAlloc _ _).trans hf1
    (have Hf1 := Lib.hid hf1; clear hf1; have Hf0 := Lib.hid hf0; clear hf0)
    go_wp2_with fail
    go_ret2
    rw [E.out]
    exact ⟨none, 0, 0, rfl, by omega, by omega, by unfold maxLen; omega, Sl.nil, Hf0.out⟩
end Go.Proofs.Ytnfjghldcopaaaa
namespace Go.Proofs.Ytnfjghldcopaaaa
open Go.RowKit
attribute [local irreducible] wpList

theorem blk_l {w : World} {b : Nat} {o : Obj} (h : w.heap[b]? = some o) : b < w.heap.size := (Array.getElem?_eq_some_iff.1 h).1
/-- Two blocks, laid in one row. -/
theorem Sl.two {w : World} {b : Nat} {t : TypeId} {fr : Nat × Nat} {S : Nat → Prop} {A B : Option Addr} {m c n d : Nat} {x y : List UInt8}
    (hb : w.heap[b]? = some (.cells #[.slice A m c, .slice B n d] t fr)) (hS : S b) (hm : m ≤ lim ∧ m ≤ c ∧ c ≤ maxLen) (hn : n ≤ lim ∧ n ≤ d ∧ d ≤ maxLen) (hx : Sl 1 eByte w S A m x) (hy : Sl 1 eByte w S B n y) : Sl 1 eBlock w S (some ⟨b, 0, none⟩) 2 [x, y] :=
  .lit hb hS rfl fun i z hz => by
    match i, hz with
    | 0, hz => obtain rfl : x = z := by simpa using hz
               exact ⟨A, m, c, by simp, ⟨by omega, hm.2⟩, hx⟩
    | 1, hz => obtain rfl : y = z := by simpa using hz
               exact ⟨B, n, d, by simp, ⟨by omega, hn.2⟩, hy⟩
    | i + 2, hz => simp at hz
/-- Bytes of the call's own lie in new blocks. -/
theorem Own.nwBytes {w : World} {base : Nat} {e : TypeId} {v : Value} {l : List UInt8} (h : Own 1 eByte w base e v l) : ∃ A c, v = .slice A l.length c ∧ (l.length ≤ c ∧ c ≤ maxLen) ∧ Sl 1 eByte w (NW base w.heap.size) A l.length l := by
  obtain ⟨A, c, rfl, hc, hs⟩ := h.slC sByte (by decide)
  refine ⟨A, c, rfl, hc, hs.1, fun hn => ?_⟩
  obtain ⟨ad, rfl, hb, hx⟩ := hs.2 hn
  refine ⟨ad, rfl, ⟨?_, hb⟩, hx⟩
  obtain ⟨cs, ho, _⟩ := h
  exact (ho.lt ad.block rfl).1

set_option maxRecDepth 100000 in
set_option maxHeartbeats 2000000 in
theorem refSym_ok (w : World) (A : Option Addr) (n c K : Nat) (cargo : List UInt8) (id : Int) (h : Sl 1 eByte w (LT w.heap.size) A n cargo) (hck : cutCheck n K = 0) (hid : 0 ≤ id ∧ id ≤ 9999) :
    Calls Try.prog 44 #[.agg #[.int .i64 n, .int .i64 K], .slice A n c, .int .i64 id] w fun e w' => ∃ A' n' c', e = .returned (.tuple #[.agg #[.int .i64 id, .slice A' n' c'], .int .i64 0]) ∧ (n' ≤ 16 ∧ n' ≤ c' ∧ c' ≤ maxLen) ∧ Sl 1 eByte w' (LT w'.heap.size) A' n' (makeSym n K cargo id).1.2 ∧ Fr w w' := by
  have hl := h.1
  obtain ⟨⟨b1, b2⟩, ⟨b3, b4⟩, _⟩ := cutCheck_ok hck
  have hb : 1 ≤ n ∧ n ≤ 360 ∧ 1 ≤ K ∧ K ≤ 16 := by omega
  obtain ⟨b1, b2, b3, b4⟩ := hb
  obtain ⟨q1, q2, _⟩ := cutF_count hck hl
  have hall := cutF_all (K := K) (by omega) n cargo
  obtain ⟨X, hX⟩ : ∃ X, X = cutF K n cargo := ⟨_, rfl⟩
  have E1 : Hid (cutUp n K cargo = (X, 0)) := by rw [hX]; exact cutUp_ok hck hl
  rw [← hX] at hall q1 q2
  obtain ⟨Y, hY⟩ : ∃ Y, Y = pickHas id.toNat X.length := ⟨_, rfl⟩
  have hYl : Y.length = X.length := by rw [hY]; exact length_pickHas _ _
  have E2 : Hid (pickedR id (X.length : Nat) = (selIdx Y, 0)) := by
    rw [Hid, hY]; unfold pickedR
    rw [if_pos (by omega), Int.toNat_natCast]
  have E4 : Hid ((makeSym n K cargo id).1.2 = symTo K X (selIdx Y)) := by
    rw [Hid, makeSym_ok hck hl hid, ← hX, ← hY]
    unfold symTo
    rw [sel_idx hYl]
  rw [E4.out]
  have hbd : Hid (∀ k ∈ selIdx Y, ∃ j : Nat, k = (j : Int) ∧ j < X.length) := fun k hk => by
    obtain ⟨j, e, hj⟩ := (Sel.idx Y).bd k hk
    exact ⟨j, e, by omega⟩
  have hget : Hid (∀ k ∈ selIdx Y, (X.getD k.toNat []).length = K) := fun k hk => by
    obtain ⟨j, rfl, hj⟩ := hbd.out k hk
    rw [Int.toNat_natCast, List.getD_eq_getElem?_getD, List.getElem?_eq_getElem hj]
    exact hall _ (List.getElem_mem hj)
  have hLl : Hid ((selIdx Y).length ≤ 24) := by
    have := (Sel.idx Y).length
    rw [Hid]; omega
  obtain ⟨L, hL⟩ : ∃ L, L = selIdx Y := ⟨_, rfl⟩
  rw [← hL] at E2 hbd hget hLl ⊢
  obtain ⟨nb, hnb⟩ : ∃ nb, X.length = nb := ⟨_, rfl⟩
  rw [hnb] at q1 q2 E2 hbd
  have HNB := Lib.hid hnb
  have hmk := run_make_ca (P := Try.prog) bV 0 27 5 1 Try.underlying27 infoByte rfl .i64 .i64 K (by omega) (by omega)
  clear hX hY hnb hYl hck hl hid hL hall
  (have H := Lib.hid h; clear h)
  go_enter Try.func44, Try.ntmps44
  go_wp2_with fail
  (with_reducible refine (refCutUp_any _ _ _ _ _ _ cargo (H.out.go sByte (by (repeat' (first | exact Below.refl _ _ | refine below_drewN ?_ _ | refine Below.drew ?_ | refine frA ?_ _ | refine Fr.trans ?_ Hf1.out)))) (wfI.mk (by omega)) (wfI.mk (by omega))).mono ?_)
  rw [E1.out]
  rintro e w1 ⟨v, rfl, ho, hf1⟩
  obtain ⟨B1, d1, rfl, ⟨hd1, hd2⟩, hs1⟩ := ho.slC wBlock (by decide)
  rw [HNB.out] at hs1 hd1 ⊢
  have hz := blk_go (heap_new (w := w.alloc (.cells #[.int .i64 n, .int .i64 K] 47)) (o := .cells #[.int .i64 0, .slice none 0 0] 53) rfl) hf1
  have hp := blk_go (heap_old (o := .cells #[.int .i64 0, .slice none 0 0] 53) (heap_new (w := w) (o := .cells #[.int .i64 n, .int .i64 K] 47) rfl)) hf1
  simp only [World.size_alloc] at hz
  have HF1 : Hid (Fr w w1) := Fr.trans ((frAlloc _ _).trans (frAlloc _ _)) hf1
  clear hf1
  (have Hz := Lib.hid hz; clear hz; have Hp := Lib.hid hp; clear hp; have Hs1 := Lib.hid hs1; clear hs1; have Ho := Lib.hid ho; clear ho)
  go_wp2_with fail
  (with_reducible refine (refPicked_any _ _ _).mono ?_)
  rw [E2.out]
  rintro e w2 ⟨B2, n2, d2, rfl, ⟨hn2, hx2⟩, hs2, hf2⟩
  obtain rfl : n2 = L.length := hs2.1.symm
  have hz2 := blk_go Hz.out hf2
  have hp2 := blk_go Hp.out hf2
  have hpl := blk_l hp2
  have hzl := blk_l hz2
  have hp20 := cell_of_heap (i := 1) hp2
  have hs1 := Hs1.out.go wBlock hf2
  have HF2 : Hid (Fr w w2) := HF1.out.trans hf2
  (have Hz2 := Lib.hid hz2; clear hz2; have Hp2 := Lib.hid hp2; clear hp2; have Hs2 := Lib.hid hs2; clear hs2; have Hs1 := Lib.hid hs1; clear hs1)
  clear hf2
  have hLl2 : L.length ≤ 24 := hLl.out
  go_wp2_with fail
  obtain ⟨p, hp⟩ : ∃ p, p = w2.heap.size + 1 := ⟨_, rfl⟩
  obtain ⟨W3, hW3⟩ : ∃ W3, W3 = w2.alloc (.cells (ca bV (List.replicate K 0)) 5) := ⟨_, rfl⟩
  have hz3 : W3.heap.size = p := by rw [hW3, hp]; simp
  have HF3 : Hid (Fr w2 W3) := by rw [hW3]; exact frAlloc _ _
  have HSZ : Hid (Sl 1 eByte W3 (fun b => b + 1 = p) (some ⟨w2.heap.size, 0, none⟩) K (symTo K X [])) := by
    rw [Hid, symTo_nil, hW3]
    exact ca_bytes (heap_new rfl) hp.symm (by simp [zeros])
  rw [← hW3, ← hp]
  have hpz : w.heap.size + 2 < p := by omega
  have HW3 : Hid (Fr w W3) := HF2.out.trans HF3.out
  have HZ3 := Lib.hid hz3
  have hpn : Hid ((W3.alloc (.cells #[.int .i64 id, .slice (some ⟨w2.heap.size, 0, none⟩) K K] 53)).heap[p]? = some (.cells #[.int .i64 id, .slice (some ⟨w2.heap.size, 0, none⟩) K K] 53 (0, 0))) := heap_new hz3.symm
  have hs2 := Hs2.out.go sInt HF3.out
  have hs1 := Hs1.out.go wBlock HF3.out
  have hz3 := blk_go Hz2.out HF3.out
  clear Hs1 Hs2 Hz2 Hp2 hp hW3 hmk hp20 hpl hzl
  (have Hs1 := Lib.hid hs1; clear hs1; have Hs2 := Lib.hid hs2; clear hs2; have Hz3 := Lib.hid hz3; clear hz3)
  go_loopw [42] (fun i wr => ∃ (j : Nat) (A5 : Option Addr) (c5 : Nat), j ≤ L.length ∧ i = .int .i64 j ∧ Hid (wr.heap[p]? = some (.cells #[.int .i64 id, .slice A5 K c5] 53 (0, 0))) ∧ (K ≤ c5 ∧ c5 ≤ maxLen) ∧ Hid (Sl 1 eByte wr (fun b => p ≤ b + 1 ∧ b < wr.heap.size ∧ b ≠ p) A5 K (symTo K X (L.take j))) ∧ Hid (Fr W3 wr)) (fun i _ => L.length - (intOf i).toNat)
  case atStart => exact ⟨0, _, _, Nat.zero_le _, rfl, hpn, ⟨Nat.le_refl _, by unfold maxLen; omega⟩, (HSZ.out.keep sByte fun q hq => (frAlloc W3 _).cell (by have := HZ3.out; have hq' : q.block + 1 = p := hq; omega)).more sByte fun b hb => by have := HZ3.out; have hb' : b + 1 = p := hb; simp; omega, frAlloc _ _⟩
  case round =>
    obtain ⟨j, A5, c5, hj, rfl, HP, ⟨hc5, hm5⟩, HS, HF⟩ := hrel
    by_cases hlt : j < L.length
    · obtain ⟨adl, rfl, hEl⟩ := Hs2.out.els (by omega)
      obtain ⟨k, hk, hck, _⟩ := hEl.int hlt
      obtain ⟨kk, rfl, hkn⟩ := hbd.out k (List.mem_of_getElem? hk)
      have hck2 : wr.cell? (adl.add j) = some (.int .i64 kk) := (HF.out.cell (p := adl.add j) (by rw [block_of_add]; exact hEl.2.1)).trans hck
      obtain ⟨adx, rfl, hEx⟩ := Hs1.out.els (by omega)
      obtain ⟨A', n', c', l, hl, hcl, hm', hcc, hcm', hsl⟩ := hEx.blockC hkn
      have hcw : wr.cell? (adx.add kk) = some (.slice A' n' c') := (HF.out.cell (p := adx.add kk) (by rw [block_of_add]; exact hEx.2.1)).trans hcl
      have hg : X.getD ((kk : Int)).toNat [] = l := by rw [Int.toNat_natCast, List.getD_eq_getElem?_getD, hl]; rfl
      have hlk : l.length = K := by rw [← hg]; exact hget.out _ (List.mem_of_getElem? hk)
      obtain rfl : n' = K := hsl.1.symm.trans hlk
      obtain ⟨cur, hcur⟩ : ∃ cur, cur = symTo n' X (L.take j) := ⟨_, rfl⟩
      obtain ⟨nxt, hnx⟩ : ∃ nxt, nxt = symTo n' X (L.take (j + 1)) := ⟨_, rfl⟩
      have hlc : cur.length = n' := by rw [hcur]; exact length_symTo fun k hk => hget.out k (List.mem_of_mem_take hk)
      have HSN : Hid (xorAll n' [cur, l] = nxt) := by
        rw [Hid, hcur, hnx, ← hg, symTo_snoc fun k hk => hget.out k (List.mem_of_mem_take hk), take_snoc' hk]
      have HNL : Hid (nxt.length = n') := by rw [Hid, hnx]; exact length_symTo fun k hk => hget.out k (List.mem_of_mem_take hk)
      have HSC : Hid (sumCheck [cur, l] = 0) := by
        unfold sumCheck Hid
        exact sumCheckFrom_of (by simp; omega) (by simp; omega) (by simp [hlc, hlk])
      have HD : Hid (n' = ([cur, l].headD []).length) := by simp [Hid, hlc]
      rw [← hcur] at HS
      have HX := Lib.hid (HS.out.more sByte (S' := LT wr.heap.size) fun b hb => hb.2.1)
      have HY := Lib.hid (hsl.go sByte HF.out)
      have HNX := Lib.hid hnx
      have hp0 := cell_of_heap (i := 0) HP.out
      have hp1 := cell_of_heap (i := 1) HP.out
      have hps : p < wr.heap.size := blk_l HP.out
      have h5a : n' ≤ lim ∧ n' ≤ c5 ∧ c5 ≤ maxLen := ⟨by unfold lim; omega, hc5, hm5⟩
      have h5b : n' ≤ lim ∧ n' ≤ c' ∧ c' ≤ maxLen := ⟨by unfold lim; omega, hcc, hcm'⟩
      have h2l : 2 ≤ lim := by unfold lim; omega
      have h02 : 0 < 2 := by omega
      (have H5a := Lib.hid h5a; clear h5a; have H5b := Lib.hid h5b; clear h5b; have H2l := Lib.hid h2l; clear h2l)
      clear hk hck hl hcl hsl hg hlk hcur hnx hlc hEl hEx HS
      go_wp2_with fail
      go_region_with (first
        | (go_at_call 78; (with_reducible refine (refSum_any _ _ 2 2 n' [cur, l] (Sl.two (by (repeat' (with_reducible (first | (refine heap_new ?_; (first | (simp; done) | rfl); done) | refine heap_dn ?_ | refine heap_d ?_ | refine heap_old ?_)))) (by simp [LT]) H5a.out H5b.out (HX.out.go sByte (by (repeat' (first | exact Below.refl _ _ | refine below_drewN ?_ _ | refine Below.drew ?_ | refine frA ?_ _)))) (HY.out.go sByte (by (repeat' (first | exact Below.refl _ _ | refine below_drewN ?_ _ | refine Below.drew ?_ | refine frA ?_ _))))) H2l.out HSC.out h02 HD.out).mono ?_); rintro e w5 ⟨v5, rfl, ho5, hf5⟩; rw [HSN.out] at ho5; have hb5 : w5.heap[p]? = some (.cells #[.int .i64 id, .slice A5 n' c5] 53 (0, 0)) := blk_go (by (repeat' (with_reducible (first | (refine heap_new ?_; (first | (simp; done) | rfl); done) | refine heap_dn ?_ | refine heap_d ?_ | refine heap_old ?_))); exact HP.out) hf5; obtain ⟨A6, c6, rfl, hc6, hs6⟩ := (ho5.lower (base' := p + 1) (by simp; omega)).nwBytes; rw [HNL.out] at hs6 hc6 ⊢; have HS6 := Lib.hid hs6; have HC6 := Lib.hid hc6; clear hs6 hc6; have HF5 : Hid (Fr wr w5) := Fr.trans (by (repeat' (first | exact Below.refl _ _ | refine below_drewN ?_ _ | refine Below.drew ?_ | refine frA ?_ _))) hf5; clear ho5 hf5; have q0 := cell_of_heap (i := 0) hb5; have q1 := cell_of_heap (i := 1) hb5; have q2 := blk_free (i := 1) hb5; have HB5 := Lib.hid hb5; clear hb5)
        | fail)
      all_goals
        have HB6 : Hid ((w5.setCell ⟨p, 1, none⟩ (.slice A6 n' c6)).heap[p]? = some (.cells #[.int .i64 id, .slice A6 n' c6] 53 (0, 0))) := by
          unfold Hid
          have := heap_setCell_same w5 p 1 _ _ (.slice A6 n' c6) HB5.out
          simpa using this
        have HS7 : Hid (Sl 1 eByte (w5.setCell ⟨p, 1, none⟩ (.slice A6 n' c6)) (fun b => p ≤ b + 1 ∧ b < (w5.setCell ⟨p, 1, none⟩ (.slice A6 n' c6)).heap.size ∧ b ≠ p) A6 n' nxt) :=
          (HS6.out.stored sByte (p := ⟨p, 1, none⟩) (by simp) _).more sByte fun b hb => by
            rw [size_setCell]
            exact ⟨by have := hb.1; omega, hb.2, by have := hb.1; omega⟩
        have HF7 : Hid (Fr W3 (w5.setCell ⟨p, 1, none⟩ (.slice A6 n' c6))) := (HF.out.trans HF5.out).setCell (by have := HZ3.out; simp; omega) _
        clear q0 q1 q2 HB5 HS6
        go_wp2_with fail
        go_roundw
        case rel => exact ⟨j + 1, A6, c6, by omega, by go_num, HB6, HC6.out, by rw [← HNX.out]; exact HS7, HF7⟩
        case measure => simp [intOf]; omega
    · obtain rfl : j = L.length := by omega
      rw [List.take_length] at HS
      have hp0 := cell_of_heap (i := 0) HP.out
      have hp1 := cell_of_heap (i := 1) HP.out
      have hps : p < wr.heap.size := blk_l HP.out
      have hzz := blk_go Hz3.out HF.out
      have z0 := cell_of_heap (i := 0) hzz
      have z1 := cell_of_heap (i := 1) hzz
      have zf0 := blk_free (i := 0) hzz
      have zf1 := blk_free (i := 1) hzz
      have hzl := blk_l hzz
      have HSF : Hid (Fr w wr) := HW3.out.trans HF.out
      have HSE : Hid (Sl 1 eByte ((wr.setCell ⟨w.heap.size + 1, 0, none⟩ (.int .i64 id)).setCell ⟨w.heap.size + 1, 1, none⟩ (.slice A5 K c5)) (LT wr.heap.size) A5 K (symTo K X L)) :=
        (HS.out.keep sByte fun q hq => by
          rw [World.cell?_setCell_other _ _ _ _ (fun e => by subst e; have := hq.1; simp at this; omega), World.cell?_setCell_other _ _ _ _ (fun e => by subst e; have := hq.1; simp at this; omega)]).more sByte fun b hb => hb.2.1
      clear hzz
      go_wp2_with fail
      refine bodyPost_ret (v := .tuple #[.agg #[.int .i64 id, .slice A5 K c5], .int .i64 0]) ?_ rfl ?_
      · simp [results, Try.results44, go_sem, z0, z1, hzl]
      · exact ⟨A5, K, c5, rfl, ⟨by omega, hc5, hm5⟩, by simpa [size_setCell] using HSE.out, (HSF.out.setCell (by simp) _).setCell (by simp) _⟩
end Go.Proofs.Ytnfjghldcopaaaa
namespace Go.Proofs.Ytnfjghldcopaaaa
open Go.RowKit
attribute [local irreducible] wpList

theorem bx_snoc {a b : List Bool} {i : Nat} {x y : Bool} (hl : a.length = b.length) (hx : a[i]? = some x) (hy : b[i]? = some y) : bx (a.take (i + 1)) (b.take (i + 1)) = bx (a.take i) (b.take i) ++ [x != y] := by
  rw [take_snoc' hx, take_snoc' hy]
  unfold bx
  rw [List.zipWith_append (by simp [hl])]
  rfl

theorem set1_farR {w : World} {g i q o : Nat} {a : Value} (h : g ≠ q) : (w.setCell ⟨g, i, none⟩ a).cell? ⟨q, o, none⟩ = w.cell? ⟨q, o, none⟩ :=
  World.cell?_setCell_other _ _ _ _ (fun e => by injection e with e; exact h e)
theorem cell_setCell_here {w : World} {p : Addr} {u v : Value} (h : w.cell? p = some u) : (w.setCell p v).cell? p = some v := World.cell?_setCell_same w p v h
theorem Chg.trans2 {S T : Nat → Prop} {a b c : World} (h : Chg S a b) (k : Chg T b c) (hs : ∀ x, T x → S x ∨ a.heap.size ≤ x) : Chg S a c :=
  ⟨k.os.trans h.os, k.tape.trans h.tape, k.output.trans h.output, Nat.le_trans h.size k.size, fun x hx hn => (k.block x (Nat.lt_of_lt_of_le hx h.size) fun e => by rcases hs x e with e | e; exact hn e; omega).trans (h.block x hx hn)⟩
/-- A store between turns nothing of an own slice whose elements are what their cells are. -/
theorem Own.flatChg {α : Type} {size base : Nat} {r : ERd α} {w w' : World} {e : TypeId} {v : Value} {xs : List α} {T : Nat → Prop} (s : ∀ {w w' : World} {S S' : Nat → Prop} {f : Nat → Option Value} {x : α}, r w S f x → r w' S' f x) (h : Own size r w base e v xs) (k : Chg T w w') (hT : ∀ b, T b → b < base) : Own size r w' base e v xs := by
  obtain ⟨cs, ho, hr⟩ := h
  refine ⟨cs, ⟨ho.1, ?_⟩, fun i x hx => s (hr i x hx)⟩
  rcases ho.2 with h0 | ⟨g, cap, cur, h1, h2, h3, h4⟩
  · exact .inl h0
  · exact .inr ⟨g, cap, cur, h1, h2, k.blk h3 (fun e => by have := hT g e; omega), h4⟩

set_option maxRecDepth 100000 in
set_option maxHeartbeats 2000000 in
theorem refBoth_any (w : World) (B K : Nat) (hB : 1 ≤ B ∧ B ≤ 24) (hK : 1 ≤ K ∧ K ≤ 16) (A1 A2 A3 A4 : Option Addr) (c1 c2 c3 c4 : Nat) (a b : Rw) (hfa : Fit B K a) (hfb : Fit B K b) (h1 : Sl 1 eBool w (LT w.heap.size) A1 B a.has) (h2 : Sl 1 eByte w (LT w.heap.size) A2 K a.data) (h3 : Sl 1 eBool w (LT w.heap.size) A3 B b.has) (h4 : Sl 1 eByte w (LT w.heap.size) A4 K b.data) (hc2 : K ≤ c2 ∧ c2 ≤ maxLen) (hc4 : K ≤ c4 ∧ c4 ≤ maxLen) :
    Calls Try.prog 68 #[.agg #[.slice A1 B c1, .slice A2 K c2], .agg #[.slice A3 B c3, .slice A4 K c4]] w fun e w' => ∃ A c A' c', e = .returned (.agg #[.slice A B c, .slice A' K c']) ∧ Bol w' (NW w.heap.size w'.heap.size) A B c (rowAdd a b).has ∧ Byt w' (NW w.heap.size w'.heap.size) A' K c' (rowAdd a b).data ∧ Fr w w' := by
  obtain ⟨b1, b2⟩ := hB
  obtain ⟨k1, k2⟩ := hK
  obtain ⟨W1, hW1⟩ : ∃ W1, W1 = w.alloc (.cells #[.slice A1 B c1, .slice A2 K c2] 29) := ⟨_, rfl⟩
  obtain ⟨W2, hW2⟩ : ∃ W2, W2 = W1.alloc (.cells #[.slice A3 B c3, .slice A4 K c4] 29) := ⟨_, rfl⟩
  obtain ⟨W3, hW3⟩ : ∃ W3, W3 = W2.alloc (.cells #[.slice none 0 0, .slice none 0 0] 29) := ⟨_, rfl⟩
  obtain ⟨W4, hW4⟩ : ∃ W4, W4 = W3.alloc (.cells #[.slice none 0 0, .slice none 0 0] 29) := ⟨_, rfl⟩
  have s1 : W1.heap.size = w.heap.size + 1 := by rw [hW1]; simp
  have s2 : W2.heap.size = w.heap.size + 2 := by rw [hW2]; simp [s1]
  have s3 : W3.heap.size = w.heap.size + 3 := by rw [hW3]; simp [s2]
  have s4 : W4.heap.size = w.heap.size + 4 := by rw [hW4]; simp [s3]
  obtain ⟨p1, hp1⟩ : ∃ p1, p1 = w.heap.size := ⟨_, rfl⟩
  obtain ⟨p2, hp2⟩ : ∃ p2, p2 = w.heap.size + 1 := ⟨_, rfl⟩
  obtain ⟨p3, hp3⟩ : ∃ p3, p3 = w.heap.size + 2 := ⟨_, rfl⟩
  obtain ⟨p4, hp4⟩ : ∃ p4, p4 = w.heap.size + 3 := ⟨_, rfl⟩
  have HF4 : Hid (Fr w W4) := by rw [hW4, hW3, hW2, hW1]; exact (((frAlloc _ _).trans (frAlloc _ _)).trans (frAlloc _ _)).trans (frAlloc _ _)
  have HB1 : Hid (W4.heap[p1]? = some (.cells #[.slice A1 B c1, .slice A2 K c2] 29 (0, 0))) := by rw [hW4, hW3, hW2, hW1]; exact heap_old (heap_old (heap_old (heap_new hp1)))
  have HB2 : Hid (W4.heap[p2]? = some (.cells #[.slice A3 B c3, .slice A4 K c4] 29 (0, 0))) := by rw [hW4, hW3, hW2]; exact heap_old (heap_old (heap_new (hp2.trans s1.symm)))
  have HB3 : Hid (W4.heap[p3]? = some (.cells #[.slice none 0 0, .slice none 0 0] 29 (0, 0))) := by rw [hW4, hW3]; exact heap_old (heap_new (hp3.trans s2.symm))
  have HB4 : Hid (W4.heap[p4]? = some (.cells #[.slice none 0 0, .slice none 0 0] 29 (0, 0))) := by rw [hW4]; exact heap_new (hp4.trans s3.symm)
  have q12 : p1 < p2 := by omega
  have q23 : p2 < p3 := by omega
  have q34 : p3 < p4 := by omega
  have q44 : p4 < W4.heap.size := by omega
  have q01 : w.heap.size ≤ p1 := by omega
  have HHA := Lib.hid hfa
  have HHB := Lib.hid hfb
  (have H1 := Lib.hid h1; clear h1; have H2 := Lib.hid h2; clear h2; have H3 := Lib.hid h3; clear h3; have H4 := Lib.hid h4; clear h4; have Hp1 := Lib.hid hp1; clear hp1; have Hp2 := Lib.hid hp2; clear hp2; have Hp3 := Lib.hid hp3; clear hp3; have Hp4 := Lib.hid hp4; clear hp4; have HW1 := Lib.hid hW1; clear hW1; have HW2 := Lib.hid hW2; clear hW2; have HW3 := Lib.hid hW3; clear hW3; have HW4 := Lib.hid hW4; clear hW4)
  clear s1 s2 s3 s4 hfa hfb
  go_enter Try.func68, Try.ntmps68
  go_wp2_with fail
  rw [← HW1.out, ← HW2.out, ← HW3.out, ← HW4.out, ← Hp4.out, ← Hp3.out, ← Hp2.out, ← Hp1.out]
  clear HW1 HW2 HW3 HW4
  go_loopw [10] (fun s10 wr => ∃ (i : Nat) (v9 : Value), i ≤ B ∧ s10 = .int .i64 i ∧ Hid (wr.heap[p4]? = some (.cells #[v9, .slice none 0 0] 29 (0, 0))) ∧ Hid (Own 1 eBool wr W4.heap.size 4 v9 (bx (a.has.take i) (b.has.take i))) ∧ Hid (Chg (fun x => x = p4) W4 wr)) (fun i _ => B - (intOf i).toNat)
  case atStart => exact ⟨0, .slice none 0 0, Nat.zero_le _, rfl, HB4, by rw [Hid]; simpa [bx] using Own.nil, Chg.refl _ _⟩
  case round =>
    obtain ⟨i, v9, hi, rfl, HD, HO, HC⟩ := hrel
    obtain ⟨wo, rfl⟩ : ∃ wo : World, wo = wr := ⟨_, rfl⟩
    have HFo : Hid (Fr w wo) := HC.out.fr HF4.out fun y hy => by omega
    have hsz := HC.out.size
    have HX1 : Hid (wo.heap[p1]? = some (.cells #[.slice A1 B c1, .slice A2 K c2] 29 (0, 0))) := HC.out.blk HB1.out (by omega)
    have HX2 : Hid (wo.heap[p2]? = some (.cells #[.slice A3 B c3, .slice A4 K c4] 29 (0, 0))) := HC.out.blk HB2.out (by omega)
    have bx1 := HX1.out
    have bx2 := HX2.out
    have bxd := HD.out
    (obtain ⟨x0, x1⟩ := box2_ bx1)
    (obtain ⟨y0, y1⟩ := box2_ bx2)
    (obtain ⟨z0, z1⟩ := box2_ bxd)
    clear bx1 bx2 bxd
    by_cases hlt : i < B
    · obtain ⟨ad1, rfl, hE1⟩ := (H1.out.go sBool HFo.out).els (by omega)
      obtain ⟨ad3, rfl, hE3⟩ := (H3.out.go sBool HFo.out).els (by omega)
      obtain ⟨u, hu, hcu⟩ := hE1.bool hlt
      obtain ⟨v, hv, hcv⟩ := hE3.bool hlt
      have HN := Lib.hid (bx_snoc (HHA.out.1.trans HHB.out.1.symm) hu hv)
      obtain ⟨L, hL⟩ : ∃ L, L = bx (a.has.take i) (b.has.take i) := ⟨_, rfl⟩
      have hLl : L.length ≤ 24 := by rw [hL]; simp [bx]; omega
      rw [← hL] at HO HN
      have hLs : (L.length + 1) * 1 ≤ lim := by unfold lim; omega
      have hLm : L.length + 1 ≤ maxLen := by unfold maxLen; omega
      have hdl : p4 < wo.heap.size := by omega
      have f4 : wo.frozen? ⟨p4, 0, none⟩ = false := blk_free HD.out
      have hone : Hid (∀ t ∈ [Value.bool (u != v)], t.oneCell' = true) := by intro t ht; simp at ht; subst ht; rfl
      have hyy : Hid (eBool wo (fun b => b < wo.heap.size ∧ v9.ownBlock ≠ some b) (fun j => [Value.bool (u != v)][j]?) (u != v)) := rfl
      have hfz : Hid (Fr wo (wo.alloc (.cells #[.bool (u != v)] 4)).drew) := (frAlloc _ _).drew
      have hbb : W4.heap.size ≤ wo.heap.size := hsz
      have hnd : Hid (¬ v9.ownBlock = some p4) := fun e => by have := (HO.out.lt e).1; omega
      (have HL := Lib.hid hL; clear hL)
      clear hE1 hE3 hu hv
      go_wp2_with fail
      go_region_law (refine step_app1o rfl _ _ 25 rfl W4.heap.size 4 (.bool false) 1 Try.underlying25 infoBool rfl (by decide) sBool wo hfz.out _ L rfl HO.out wo.heap.size [.bool (u != v)] 4 (0, 0) rfl (heap_d (heap_new rfl)) rfl hone.out (u != v) hyy.out hLm hLs hbb ?_; intro v' w3 HO3 HC3 HL3; obtain ⟨Av, nv, cv, rfl⟩ := HO3.out.isSl; have hd3 := HC3.out.blk HD.out hnd.out; have e31 := cell_of_heap (i := 0) hd3; have f31 := blk_free (i := 0) hd3)
      all_goals
        have hd3 := HC3.out.blk HD.out hnd.out
        have HDf : Hid ((w3.setCell ⟨p4, 0, none⟩ (.slice Av nv cv)).heap[p4]? = some (.cells #[.slice Av nv cv, .slice none 0 0] 29 (0, 0))) := by
          unfold Hid
          simp [World.setCell, Array.getElem?_modify, hd3]
        have HCf : Hid (Chg (fun x => x = p4) W4 (w3.setCell ⟨p4, 0, none⟩ (.slice Av nv cv))) := Chg.set (S := fun y => y = p4) (p := ⟨p4, 0, none⟩) (HC.out.trans2 HC3.out fun y hy => .inr (HO.out.lt hy).1) rfl _
        have HOf : Hid (Own 1 eBool (w3.setCell ⟨p4, 0, none⟩ (.slice Av nv cv)) W4.heap.size 4 (.slice Av nv cv) (bx (a.has.take (i + 1)) (b.has.take (i + 1)))) := by
          rw [HN.out]
          exact HO3.out.flatChg (fun h => h) (Chg.set (S := fun y => y = p4) (p := ⟨p4, 0, none⟩) (Chg.refl _ w3) rfl _) fun y hy => by omega
        clear hd3 x0 x1 y0 y1 z0 z1
        go_wp2_with fail
        go_roundw
        case rel => exact ⟨i + 1, _, by omega, by go_num, HDf, HOf, HCf⟩
        case measure => simp [intOf]; omega
    · obtain rfl : i = B := by omega
      have e1 : a.has.take i = a.has := List.take_of_length_le (by rw [HHA.out.1]; exact Nat.le_refl _)
      have e2 : b.has.take i = b.has := List.take_of_length_le (by rw [HHB.out.1]; exact Nat.le_refl _)
      rw [e1, e2] at HO
      have hbl : (bx a.has b.has).length = i := by simp [bx, HHA.out.1, HHB.out.1]
      obtain ⟨A9, c9, rfl, ⟨hc9, hm9⟩, hs9⟩ := HO.out.slC sBool (by decide)
      rw [hbl] at hs9 hc9 HD HO
      have HS9 : Hid (Sl 1 eBool wo (NW W4.heap.size wo.heap.size) A9 i (bx a.has b.has)) := by
        refine ⟨hs9.1, fun hn => ?_⟩
        obtain ⟨ad, e, hb, hc⟩ := hs9.2 hn
        subst e
        exact ⟨ad, rfl, ⟨(HO.out.lt rfl).1, hb⟩, hc⟩
      obtain ⟨W6, hW6⟩ : ∃ W6, W6 = wo.alloc (.cells #[.slice A2 K c2, .slice A4 K c4] 27) := ⟨_, rfl⟩
      obtain ⟨q6, hq6⟩ : ∃ q6, q6 = wo.heap.size := ⟨_, rfl⟩
      have HF6 : Hid (Fr wo W6) := by rw [hW6]; exact frAlloc _ _
      have HFw6 : Hid (Fr w W6) := HFo.out.trans HF6.out
      have hda := HHA.out.2
      have hdb := HHB.out.2
      have CS : Hid (Calls Try.prog 78 #[.slice (some ⟨q6, 0, none⟩) 2 2] W6 fun e w' => ∃ A' c', e = .returned (.slice A' K c') ∧ (K ≤ c' ∧ c' ≤ maxLen) ∧ Sl 1 eByte w' (NW W6.heap.size w'.heap.size) A' K (rowAdd a b).data ∧ Fr W6 w') := by
        have hz : xorAll K [a.data, b.data] = (rowAdd a b).data := xorAll_two hda
        have hzl : (rowAdd a b).data.length = K := (HHA.out.add HHB.out).2
        refine (refSum_any W6 (some ⟨q6, 0, none⟩) 2 2 K [a.data, b.data] (Sl.two (by rw [hW6]; exact heap_new hq6) (by rw [hW6, hq6]; simp [LT]) ⟨by unfold lim; omega, hc2⟩ ⟨by unfold lim; omega, hc4⟩ (H2.out.go sByte HFw6.out) (H4.out.go sByte HFw6.out)) (by unfold lim; omega) ?_ (by omega) ?_).mono ?_
        · unfold sumCheck
          exact sumCheckFrom_of (by simp; omega) (by simp; omega) (by simp [hda, hdb])
        · simp [hda]
        · rintro e w' ⟨v, rfl, ho, hf⟩
          rw [hz] at ho
          obtain ⟨A', c', rfl, hc', hs'⟩ := ho.nwBytes
          rw [hzl] at hc' hs' ⊢
          exact ⟨A', c', rfl, hc', hs', hf⟩
      have HP6 := Lib.hid (blk_go HD.out HF6.out)
      have HT6 := Lib.hid (blk_go (show wo.heap[p3]? = some (.cells #[.slice none 0 0, .slice none 0 0] 29 (0, 0)) from HC.out.blk HB3.out (by omega)) HF6.out)
      have hq5 : wo.heap.size ≤ W6.heap.size := HF6.out.size
      have HW6 := Lib.hid hW6
      have HQ6 := Lib.hid hq6
      clear hs9 hW6 hq6 hbl hda hdb e1 e2
      go_wp2_with fail
      rw [← HW6.out, ← HQ6.out]
      (with_reducible refine (CS.out).mono ?_)
      rintro e w7 ⟨A7, c7, rfl, hc7, hs7, hf⟩
      have hp7 := blk_go HP6.out hf
      have ht7 := blk_go HT6.out hf
      have hl7 : p4 < w7.heap.size := (Array.getElem?_eq_some_iff.1 hp7).1
      have hl8 : p3 < w7.heap.size := (Array.getElem?_eq_some_iff.1 ht7).1
      have HF7 : Hid (Fr w w7) := HFw6.out.trans hf
      have HF67 : Hid (Fr wo w7) := HF6.out.trans hf
      (obtain ⟨z0, z1⟩ := box2_ hp7)
      (obtain ⟨t0, t1⟩ := box2_ ht7)
      have fz0 : w7.frozen? ⟨p4, 1, none⟩ = false := blk_free hp7
      have ft0 : w7.frozen? ⟨p3, 0, none⟩ = false := blk_free ht7
      have ft1 : w7.frozen? ⟨p3, 1, none⟩ = false := blk_free ht7
      have HS7 := Lib.hid hs7
      have HC7 := Lib.hid hc7
      clear hs7 hf hp7 ht7 x0 x1 y0 y1
      have q33 : p3 ≠ p4 := by omega
      have q43 : p4 ≠ p3 := by omega
      obtain ⟨w9, hw9⟩ : ∃ w9, w9 = ((w7.setCell ⟨p4, 1, none⟩ (.slice A7 K c7)).setCell ⟨p3, 0, none⟩ (.slice A9 i c9)).setCell ⟨p3, 1, none⟩ (.slice A7 K c7) := ⟨_, rfl⟩
      have hs79 : w9.heap.size = w7.heap.size := by rw [hw9, size_setCell, size_setCell, size_setCell]
      have HC79 : Hid (Chg (fun y => y = p3 ∨ y = p4) w7 w9) := by
        rw [hw9]
        exact Chg.set (S := fun y => y = p3 ∨ y = p4) (p := ⟨p3, 1, none⟩) (Chg.set (S := fun y => y = p3 ∨ y = p4) (p := ⟨p3, 0, none⟩) (Chg.set (S := fun y => y = p3 ∨ y = p4) (p := ⟨p4, 1, none⟩) (Chg.refl _ w7) (.inr rfl) _) (.inl rfl) _) (.inl rfl) _
      have hsW := HF67.out.size
      have hswo := HFo.out.size
      have HR1 : Hid (Bol w9 (NW w.heap.size w9.heap.size) A9 i c9 (rowAdd a b).has) := by
        refine ⟨⟨by unfold lim; omega, hc9, hm9⟩, (((HS9.out.keep sBool fun p hp => HF67.out.cell hp.2).chg sBool HC79.out fun y hy => ?_).more sBool fun y hy => ?_)⟩
        · have h1 := hy.1; have h2 := hy.2; exact ⟨by omega, by omega⟩
        · have h1 := hy.1; have h2 := hy.2; exact ⟨by omega, by omega⟩
      have HR2 : Hid (Byt w9 (NW w.heap.size w9.heap.size) A7 K c7 (rowAdd a b).data) := by
        refine ⟨⟨by unfold lim; omega, HC7.out⟩, ((HS7.out.chg sByte HC79.out fun y hy => ?_).more sByte fun y hy => ?_)⟩
        · have h1 := hy.1; have h2 := hy.2; exact ⟨by omega, by omega⟩
        · have h1 := hy.1; have h2 := hy.2; exact ⟨by omega, by omega⟩
      have HRF : Hid (Fr w w9) := HC79.out.fr HF7.out fun y hy => by omega
      have HW9 := Lib.hid hw9
      clear hw9 hs79 HW6 HQ6
      go_wp2_with fail
      rw [← HW9.out]
      have r0 : w9.cell? ⟨p3, 0, none⟩ = some (.slice A9 i c9) := by
        rw [HW9.out, World.cell?_setCell_other _ _ _ _ (by simp), cell_setCell_here (u := .slice none 0 0)]
        rw [set1_farR q43]; exact t0
      have r1 : w9.cell? ⟨p3, 1, none⟩ = some (.slice A7 K c7) := by
        rw [HW9.out, cell_setCell_here (u := .slice none 0 0)]
        rw [World.cell?_setCell_other _ _ _ _ (by simp), set1_farR q43]; exact t1
      have r2 : p3 < w9.heap.size := by rw [HW9.out, size_setCell, size_setCell, size_setCell]; exact hl8
      refine bodyPost_ret (v := .agg #[.slice A9 i c9, .slice A7 K c7]) ?_ rfl ?_
      · simp [results, Try.results68, go_sem, r0, r1, r2]
      · exact ⟨A9, c9, A7, c7, rfl, HR1.out, HR2.out, HRF.out⟩
end Go.Proofs.Ytnfjghldcopaaaa
namespace Go.Proofs.Ytnfjghldcopaaaa
open Go.RowKit
attribute [local irreducible] wpList

/-- The rows up to the t-th, taken out. -/
def elimTo (rows : List Rw) (a k t : Nat) : List Rw := (elimR rows a k).take t ++ rows.drop t
theorem elimTo_zero (rows : List Rw) (a k : Nat) : elimTo rows a k 0 = rows := by simp [elimTo]
theorem elimTo_all (rows : List Rw) (a k : Nat) : elimTo rows a k rows.length = elimR rows a k := by
  unfold elimTo
  rw [List.drop_length, List.append_nil, List.take_of_length_le (by rw [length_elimR]; exact Nat.le_refl _)]
theorem length_elimTo {rows : List Rw} {a k t : Nat} (h : t ≤ rows.length) : (elimTo rows a k t).length = rows.length := by simp [elimTo, length_elimR]; omega
theorem elimTo_get {rows : List Rw} {a k t j : Nat} (h : t ≤ rows.length) : (elimTo rows a k t)[j]? = if j < t then (elimR rows a k)[j]? else rows[j]? := by
  unfold elimTo
  split
  · rename_i h1
    rw [List.getElem?_append_left (by simp [length_elimR]; omega), List.getElem?_take, if_pos h1]
  · rename_i h1
    rw [List.getElem?_append_right (by simp [length_elimR]; omega), List.length_take, length_elimR, Nat.min_eq_left h, List.getElem?_drop, show t + (j - t) = j by omega]
/-- The pivot stays. -/
theorem elimTo_piv {rows : List Rw} {a k t : Nat} {p : Rw} (h : t ≤ rows.length) (hp : rows[a]? = some p) : (elimTo rows a k t)[a]? = some p := by
  rw [elimTo_get h]
  split
  · rw [elimR_get, hp]; simp
  · exact hp
theorem elimTo_succ {rows : List Rw} {a k t : Nat} {p x : Rw} (hp : rows[a]? = some p) (hx : rows[t]? = some x) : elimTo rows a k (t + 1) = (elimTo rows a k t).set t (if t = a then x else outOf k p x) := by
  have ht := (List.getElem?_eq_some_iff.1 hx).1
  have hg : rows.getD a rz = p := by rw [List.getD_eq_getElem?_getD, hp]; rfl
  apply List.ext_getElem?
  intro j
  rw [elimTo_get (by omega), List.getElem?_set, length_elimTo (by omega), elimTo_get (by omega)]
  rcases Nat.lt_trichotomy j t with h1 | h1 | h1
  · rw [if_pos (by omega), if_neg (by omega), if_pos h1]
  · subst h1
    rw [if_pos (by omega), if_pos rfl, if_pos ht, elimR_get, hx, hg]; rfl
  · rw [if_neg (by omega), if_neg (by omega), if_neg (by omega)]
theorem elimTo_same {rows : List Rw} {a k t : Nat} {x : Rw} (hx : (elimTo rows a k t)[t]? = some x) : (elimTo rows a k t).set t x = elimTo rows a k t := by
  apply List.ext_getElem?
  intro j
  rw [List.getElem?_set]
  split
  · rename_i h; subst h
    split
    · exact hx.symm
    · rw [List.getElem?_eq_none (by omega)]
  · rfl
theorem gStep_no {rows : List Rw} {a k : Nat} (h : gw rows a k < 0) : gStep (rows, a) k = (rows, a) := if_pos h
theorem gStep_yes {rows : List Rw} {a k i : Nat} (h : gw rows a k = (i : Int)) : gStep (rows, a) k = (elimR (swapR rows a (a + i)) a k, a + 1) := by
  unfold gStep
  rw [if_neg (by simp only [h]; omega)]
  simp only [h, Int.toNat_natCast]
theorem gw_bd (rows : List Rw) (a k : Nat) : -1 ≤ gw rows a k ∧ (gw rows a k < 0 ∨ ∃ i : Nat, gw rows a k = (i : Int) ∧ a + i < rows.length) := by
  have h := idxF_bd true ((rows.drop a).map fun r => r.bit k)
  rw [List.length_map, List.length_drop] at h
  refine ⟨h.1, ?_⟩
  rcases Int.lt_or_le (gw rows a k) 0 with h1 | h1
  · exact .inl h1
  · obtain ⟨i, hi⟩ := Int.eq_ofNat_of_zero_le h1
    have h2 : gw rows a k < ((rows.length - a : Nat) : Int) := h.2
    exact .inr ⟨i, hi, by omega⟩
/-- What AddRow leaves. -/
def RAddPost (w : World) (x : Sy × Bool × Int) (e : Ending) (w' : World) : Prop :=
  ∃ A n c, e = .returned (.tuple #[.agg #[.int .i64 x.1.blocks, .int .i64 x.1.block, .slice A n c], .bool x.2.1, .int .i64 x.2.2]) ∧ (n ≤ 25 ∧ n ≤ c ∧ c ≤ maxLen) ∧ Sl 2 eRw w' (LT w'.heap.size) A n x.1.rows ∧ Fr w w'

section
variable {α : Type} {size : Nat} {rd : ERd α} {w : World} {base : Nat} {e : TypeId} {v : Value} {xs : List α}
theorem Own.atD (s : Stable size rd) (h : Own size rd w base e v xs) : Own size rd w.drew base e v xs := h.fr s (Below.refl _ _).drew
theorem Own.atA (s : Stable size rd) {o : Obj} (h : Own size rd w base e v xs) : Own size rd (w.alloc o) base e v xs := h.fr s (frAlloc _ _)
end

theorem Sl.notBool {w : World} {S : Nat → Prop} {A : Option Addr} {n u : Nat} {L : List Bool} {cs : Array Value} {t : TypeId} {fr : Nat × Nat} (h : Sl 1 eBool w S A n L) (hu : w.heap[u]? = some (.cells cs t fr)) (hno : ∀ (i : Nat) (x : Bool), cs[i]? ≠ some (.bool x)) : Sl 1 eBool w (fun y => S y ∧ y ≠ u) A n L := by
  refine ⟨h.1, fun hn => ?_⟩
  obtain ⟨ad, e, hb, hc⟩ := h.2 hn
  refine ⟨ad, e, ⟨hb, fun e2 => ?_⟩, hc⟩
  have hl := h.1
  have h0 : w.cell? (ad.add (0 * 1 + 0)) = some (.bool L[0]) := hc 0 L[0] (List.getElem?_eq_getElem (by omega))
  have h1 : (ad.add (0 * 1 + 0)).block = u := by rw [block_of_add]; exact e2
  generalize ad.add (0 * 1 + 0) = ad' at h0 h1
  unfold World.cell? at h0
  rw [h1, hu] at h0
  simp only at h0
  split at h0
  · cases h0
  · exact hno _ _ h0
theorem Sl.notByte {w : World} {S : Nat → Prop} {A : Option Addr} {n u : Nat} {L : List UInt8} {cs : Array Value} {t : TypeId} {fr : Nat × Nat} (h : Sl 1 eByte w S A n L) (hu : w.heap[u]? = some (.cells cs t fr)) (hno : ∀ (i : Nat) (x : UInt8), cs[i]? ≠ some (.int .u8 (x.toNat : Int))) : Sl 1 eByte w (fun y => S y ∧ y ≠ u) A n L := by
  refine ⟨h.1, fun hn => ?_⟩
  obtain ⟨ad, e, hb, hc⟩ := h.2 hn
  refine ⟨ad, e, ⟨hb, fun e2 => ?_⟩, hc⟩
  have hl := h.1
  have h0 : w.cell? (ad.add (0 * 1 + 0)) = some (.int .u8 ((L[0]).toNat : Int)) := hc 0 L[0] (List.getElem?_eq_getElem (by omega))
  have h1 : (ad.add (0 * 1 + 0)).block = u := by rw [block_of_add]; exact e2
  generalize ad.add (0 * 1 + 0) = ad' at h0 h1
  unfold World.cell? at h0
  rw [h1, hu] at h0
  simp only at h0
  split at h0
  · cases h0
  · exact hno _ _ h0
/-- The rows lie in no block of other cells. -/
theorem RsM.notBlk {w : World} {S : Nat → Prop} {g u : Nat} {rest : List Value} {xs : List Rw} {cs : Array Value} {t : TypeId} {fr : Nat × Nat} (h : RsM w S g rest xs) (hu : w.heap[u]? = some (.cells cs t fr)) (h1 : ∀ (i : Nat) (x : Bool), cs[i]? ≠ some (.bool x)) (h2 : ∀ (i : Nat) (x : UInt8), cs[i]? ≠ some (.int .u8 (x.toNat : Int))) : RsM w (fun y => S y ∧ y ≠ u) g rest xs := by
  obtain ⟨ps, h3, h4, h5⟩ := h
  exact ⟨ps, h3, h4, fun i x hx => by
    obtain ⟨p, hp, A, n, c, A2, n2, c2, e, k1, k2⟩ := h5 i x hx
    exact ⟨p, hp, A, n, c, A2, n2, c2, e, ⟨k1.1, k1.2.notBool hu h1⟩, k2.1, k2.2.notByte hu h2⟩⟩
theorem sysCells_noB (a b : Int) (v : Value) (hv : ∀ x, v ≠ .bool x) : ∀ (i : Nat) (x : Bool), (#[Value.int .i64 a, .int .i64 b, v] : Array Value)[i]? ≠ some (.bool x) := by
  intro i x h
  match i, h with
  | 0, h => simp at h
  | 1, h => simp at h
  | 2, h => simp at h; exact hv x h
  | i + 3, h => simp at h
theorem sysCells_noY (a b : Int) (v : Value) (hv : ∀ (x : UInt8), v ≠ .int .u8 (x.toNat : Int)) : ∀ (i : Nat) (x : UInt8), (#[Value.int .i64 a, .int .i64 b, v] : Array Value)[i]? ≠ some (.int .u8 (x.toNat : Int)) := by
  intro i x h
  match i, h with
  | 0, h => simp at h
  | 1, h => simp at h
  | 2, h => simp at h; exact hv x h
  | i + 3, h => simp at h

theorem Chg.dr {S : Nat → Prop} {a b : World} (h : Chg S a b) : Chg S a b.drew := ⟨h.os, h.tape, h.output, h.size, h.block⟩
theorem RsM.dr {w : World} {S : Nat → Prop} {g : Nat} {rest : List Value} {xs : List Rw} (h : RsM w S g rest xs) : RsM w.drew S g rest xs := by
  obtain ⟨ps, h1, h2, h3⟩ := h
  exact ⟨ps, h1, h2, fun i x hx => by
    obtain ⟨p, hp, A, n, c, A2, n2, c2, e, k1, k2⟩ := h3 i x hx
    exact ⟨p, hp, A, n, c, A2, n2, c2, e, ⟨k1.1, k1.2.keep sBool fun _ _ => rfl⟩, k2.1, k2.2.keep sByte fun _ _ => rfl⟩⟩

set_option maxRecDepth 100000 in
set_option maxHeartbeats 8000000 in
theorem refAdd_good (w : World) (B K : Nat) (A : Option Addr) (n c : Nat) (rows : List Rw) (h : Sl 2 eRw w (LT w.heap.size) A n rows) (hB : 1 ≤ B ∧ B ≤ 24) (hK : 1 ≤ K ∧ K ≤ 16) (hs : Sys B K rows) (r : Rw) (A1 A2 : Option Addr) (c1 c2 : Nat) (hfr : Fit B K r)
    (ha : Sl 1 eBool w (LT w.heap.size) A1 B r.has) (hd : Sl 1 eByte w (LT w.heap.size) A2 K r.data) (hc1 : B ≤ c1 ∧ c1 ≤ maxLen) (hc2 : K ≤ c2 ∧ c2 ≤ maxLen) :
    Calls Try.prog 22 #[.agg #[.int .i64 B, .int .i64 K, .slice A n c], .agg #[.slice A1 B c1, .slice A2 K c2]] w (RAddPost w (sysAdd ⟨B, K, rows⟩ r)) := by
  have hl := h.1
  have hn24 : n ≤ 24 := by have := hs.card; omega
  obtain ⟨b1, b2⟩ := hB
  obtain ⟨k1, k2⟩ := hK
  obtain ⟨W1, hW1⟩ : ∃ W1, W1 = w.alloc (.cells #[.int .i64 B, .int .i64 K, .slice A n c] 24) := ⟨_, rfl⟩
  obtain ⟨W2, hW2⟩ : ∃ W2, W2 = W1.alloc (.cells #[.slice A1 B c1, .slice A2 K c2] 29) := ⟨_, rfl⟩
  obtain ⟨W3, hW3⟩ : ∃ W3, W3 = W2.alloc (.cells #[.int .i64 0, .int .i64 0, .slice none 0 0] 24) := ⟨_, rfl⟩
  have s1 : W1.heap.size = w.heap.size + 1 := by rw [hW1]; simp
  have s2 : W2.heap.size = w.heap.size + 2 := by rw [hW2]; simp [s1]
  have s3 : W3.heap.size = w.heap.size + 3 := by rw [hW3]; simp [s2]
  obtain ⟨p1, hp1⟩ : ∃ p1, p1 = w.heap.size := ⟨_, rfl⟩
  obtain ⟨p2, hp2⟩ : ∃ p2, p2 = w.heap.size + 1 := ⟨_, rfl⟩
  obtain ⟨p3, hp3⟩ : ∃ p3, p3 = w.heap.size + 2 := ⟨_, rfl⟩
  have HF3 : Hid (Fr w W3) := by rw [hW3, hW2, hW1]; exact ((frAlloc _ _).trans (frAlloc _ _)).trans (frAlloc _ _)
  have HB1 : Hid (W3.heap[p1]? = some (.cells #[.int .i64 B, .int .i64 K, .slice A n c] 24 (0, 0))) := by rw [hW3, hW2, hW1]; exact heap_old (heap_old (heap_new hp1))
  have HB2 : Hid (W3.heap[p2]? = some (.cells #[.slice A1 B c1, .slice A2 K c2] 29 (0, 0))) := by rw [hW3, hW2]; exact heap_old (heap_new (hp2.trans s1.symm))
  have HB3 : Hid (W3.heap[p3]? = some (.cells #[.int .i64 0, .int .i64 0, .slice none 0 0] 24 (0, 0))) := by rw [hW3]; exact heap_new (hp3.trans s2.symm)
  have q12 : p1 < p2 := by omega
  have q23 : p2 < p3 := by omega
  have q3 : p3 < W3.heap.size := by omega
  have q01 : w.heap.size ≤ p1 := by omega
  have HS := Lib.hid hs
  have HFR := Lib.hid hfr
  (have H := Lib.hid h; clear h; have Ha := Lib.hid ha; clear ha; have Hd := Lib.hid hd; clear hd; have Hl := Lib.hid hl; clear hl; have Hp1 := Lib.hid hp1; clear hp1; have Hp2 := Lib.hid hp2; clear hp2; have Hp3 := Lib.hid hp3; clear hp3; have HW1 := Lib.hid hW1; clear hW1; have HW2 := Lib.hid hW2; clear hW2; have HW3 := Lib.hid hW3; clear hW3)
  clear s1 s2 s3 hs hfr
  go_enter Try.func22, Try.ntmps22
  go_upto_region 3 with fail
  rw [← HW1.out, ← HW2.out, ← HW3.out, ← Hp3.out, ← Hp2.out, ← Hp1.out]
  clear HW1 HW2 HW3
  go_cut [7] (fun s7 wx => Hid (Own 2 eRw wx W3.heap.size 29 s7 (rows ++ [r])) ∧ Hid (Fr W3 wx))
  case first =>
    have x2 := cell_of_heap (i := 2) HB1.out
    have y0 := cell_of_heap (i := 0) HB2.out
    have y1 := cell_of_heap (i := 1) HB2.out
    have hq1 : p1 < W3.heap.size := by omega
    have hq2 : p2 < W3.heap.size := by omega
    have HSR := Lib.hid (H.out.go sRw HF3.out)
    have HRY : Hid (∀ (v' : Value) (w' : World), Own 2 eRw w' W3.heap.size 29 v' rows → Fr W3 w' → eRw w' (fun b => b < w'.heap.size ∧ v'.ownBlock ≠ some b) (fun j => [Value.slice A1 B c1, .slice A2 K c2][j]?) r) := fun v' w' ho hf => by
      have hsub : ∀ b, LT w.heap.size b → b < w'.heap.size ∧ v'.ownBlock ≠ some b := fun b hb => by
        have h1 := HF3.out.size
        have h2 := hf.size
        have hb : b < w.heap.size := hb
        exact ⟨by omega, fun e => by have := (ho.lt e).1; omega⟩
      exact eRw_iff.2 ⟨A1, B, c1, A2, K, c2, ⟨rfl, rfl⟩, ⟨⟨by unfold lim; omega, hc1⟩, (Ha.out.keep sBool fun p hp => (HF3.out.trans hf).cell hp).more sBool hsub⟩, ⟨by unfold lim; omega, hc2⟩, (Hd.out.keep sByte fun p hp => (HF3.out.trans hf).cell hp).more sByte hsub⟩
    have hone : Hid (∀ u ∈ [Value.slice A1 B c1, .slice A2 K c2], u.oneCell' = true) := by intro u hu; simp at hu; rcases hu with rfl | rfl <;> rfl
    have hrl : rows.length ≤ 24 := by have := Hl.out; omega
    have hm0 : Hid (([] : List Rw).length + n ≤ maxLen) := by unfold maxLen Hid; simp; omega
    have hb0 : Hid ((([] : List Rw).length + n) * 48 ≤ lim) := by unfold lim Hid; simp; omega
    have hm1 : Hid (rows.length + 1 ≤ maxLen) := by unfold maxLen Hid; omega
    have hb1 : Hid ((rows.length + 1) * 48 ≤ lim) := by unfold lim Hid; omega
    have HKP : Hid (∀ w', Fr W3 w' → w'.cell? ⟨p1, 2, none⟩ = some (.slice A n c) ∧ w'.cell? ⟨p2, 0, none⟩ = some (.slice A1 B c1) ∧ w'.cell? ⟨p2, 1, none⟩ = some (.slice A2 K c2)) := fun w' hf =>
      ⟨(hf.cell (p := ⟨p1, 2, none⟩) hq1).trans x2, (hf.cell (p := ⟨p2, 0, none⟩) hq2).trans y0, (hf.cell (p := ⟨p2, 1, none⟩) hq2).trans y1⟩
    go_region_held3 (fun w' => w'.cell? ⟨p1, 2, none⟩ = some (.slice A n c) ∧ w'.cell? ⟨p2, 0, none⟩ = some (.slice A1 B c1) ∧ w'.cell? ⟨p2, 1, none⟩ = some (.slice A2 K c2)) ((refine HKP.out _ ?_; (repeat' (with_reducible (first | exact Below.refl _ _ | exact HFW.out | exact HF.out | refine Below.drew ?_ | refine frA ?_ _))))) (first
      | (refine step_appSl (v := .slice (some ⟨_, 0, none⟩) 0 0) rfl (.tmp 29) (.tmp 31) 22 rfl (.agg #[.slice none 0 0, .slice none 0 0]) 48 Try.underlying22 infoRow rfl (by decide) sRw fRw W3 (by (repeat' (with_reducible (first | exact Below.refl _ _ | refine Below.drew ?_ | refine frA ?_ _)))) rfl rfl (by (repeat' (with_reducible (first | exact Own.emptyAt (by simp) (by simp) | refine Own.atD sRw ?_ | refine Own.atA sRw ?_)))) A n c rows rfl HSR.out hm0.out hb0.out ?_; intro v' w' HO HF HBL; have HYY := Lib.hid (HRY.out v' w' HO.out HF.out); have hsw := HF.out.size)
      | (refine step_app1o rfl (.tmp 32) (.tmp 34) 22 rfl W3.heap.size 29 (.agg #[.slice none 0 0, .slice none 0 0]) 48 Try.underlying22 infoRow rfl (by decide) sRw w' (by (repeat' (with_reducible (first | exact Below.refl _ _ | refine Below.drew ?_ | refine frA ?_ _)))) _ rows rfl HO.out _ [.slice A1 B c1, .slice A2 K c2] 29 (0, 0) rfl (by first | exact heap_d (heap_new rfl) | exact heap_new rfl | (exact heap_d (HBL.out _ _ (by (repeat' (with_reducible (first | (refine heap_new ?_; (first | (simp; done) | rfl); done) | refine heap_dn ?_ | refine heap_d ?_ | refine heap_old ?_)))) (by simp [Value.ownBlock]))) | (exact HBL.out _ _ (by (repeat' (with_reducible (first | (refine heap_new ?_; (first | (simp; done) | rfl); done) | refine heap_dn ?_ | refine heap_d ?_ | refine heap_old ?_)))) (by simp [Value.ownBlock]))) rfl hone.out r HYY.out hm1.out hb1.out hsw ?_; intro v2 w2 HO2 HC2 HL2; have HFW : Hid (Fr W3 w2) := HC2.out.fr HF.out fun y hy => (HO.out.lt hy).1)
      | fail)
    all_goals
      clear x2 y0 y1
      go_wp2_with fail
      go_meet
      exact ⟨HO2, HFW⟩
  case rest =>
    obtain ⟨HO7, HF7⟩ := hcut
    obtain ⟨W5, rfl⟩ : ∃ W5, W5 = wc := ⟨_, rfl⟩
    obtain ⟨g, cap, rest, rfl, hbg, ⟨hnc, hcm⟩, hM⟩ := HO7.out.rsM (by simp)
    obtain ⟨m, hm⟩ : ∃ m, m = (rows ++ [r]).length := ⟨_, rfl⟩
    have hm1 : 1 ≤ m ∧ m ≤ 25 := by rw [hm, List.length_append, List.length_singleton]; have := Hl.out; omega
    obtain ⟨hm1, hm2⟩ := hm1
    rw [← hm] at hnc ⊢
    have HM := Lib.hid hM
    have HFW : Hid (Fr w W5) := HF3.out.trans HF7.out
    have HBB1 := Lib.hid (blk_go HB1.out HF7.out)
    have HBB3 := Lib.hid (blk_go HB3.out HF7.out)
    have hx1 := HBB1.out
    (obtain ⟨x0, x1, x2⟩ := box3_ hx1)
    have hg5 : g < W5.heap.size := HM.out.lt
    have hW35 := HF7.out.size
    have HGK : Hid (∀ k, GOk B K (fun v => Span (AllOf (rows ++ [r])) v) k (gauss (rows ++ [r]) k).1 (gauss (rows ++ [r]) k).2) := gauss_ok (fun y hy => by
      rcases List.mem_append.1 hy with hy | hy
      · exact HS.out.fit y hy
      · obtain rfl := List.mem_singleton.1 hy; exact HFR.out) fun _ => Iff.rfl
    have HGL : Hid (∀ k, (gauss (rows ++ [r]) k).1.length = m) := fun k => by rw [length_gauss, hm]
    unfold maxLen at hcm
    (have Hm := Lib.hid hm; clear hm)
    clear hM hx1
    go_wp2_with fail
    go_loopw [8, 38] (fun s8 s38 wr => ∃ (k a : Nat) (N : List Rw), k ≤ B ∧ s38 = .int .i64 k ∧ s8 = .int .i64 a ∧ Hid (gauss (rows ++ [r]) k = (N, a)) ∧ Hid (RsM wr (fun b => b < wr.heap.size ∧ b ≠ g) g rest N) ∧ Hid (Chg (fun b => b = g) W5 wr)) (fun _ k _ => B - (intOf k).toNat)
    case atStart => exact ⟨0, 0, rows ++ [r], Nat.zero_le _, rfl, rfl, rfl, HM, Chg.refl _ _⟩
    case round =>
      obtain ⟨k, a, N, hk, rfl, rfl, HG, HN, HC⟩ := hrel
      obtain ⟨wo, rfl⟩ : ∃ wo : World, wo = wr := ⟨_, rfl⟩
      have hgk := HGK.out k
      have hgl := HGL.out k
      rw [HG.out] at hgk hgl
      have hNm : N.length = m := hgl
      have ham : a ≤ m := by have := hgk.le; rw [hNm] at this; exact this
      have HFit : Hid (∀ y ∈ N, Fit B K y) := hgk.fit
      have hsz := HC.out.size
      clear hgk hgl
      by_cases hlt : k < B
      · obtain ⟨q, hq⟩ : ∃ q, q = wo.heap.size := ⟨_, rfl⟩
        obtain ⟨W6, hW6⟩ : ∃ W6, W6 = wo.alloc (.cells #[.int .i64 k] 3) := ⟨_, rfl⟩
        have HF6 : Hid (Fr wo W6) := by rw [hW6]; exact frAlloc _ _
        have HQ6 : Hid (W6.heap[q]? = some (.cells #[.int .i64 k] 3 (0, 0))) := by rw [hW6]; exact heap_new hq
        have hs6 : W6.heap.size = wo.heap.size + 1 := by rw [hW6]; simp
        have HN6 : Hid (RsM W6 (fun b => b < wo.heap.size ∧ b ≠ g) g rest N) := HN.out.fr HF6.out fun b hb => hb.1
        have hqg : q ≠ g := by omega
        have hql : q < W6.heap.size := by omega
        have HSN := Lib.hid (gauss_succ (rows ++ [r]) k)
        rw [HG.out] at HSN
        have HBD := Lib.hid (gw_bd N a k)
        obtain ⟨wi, hwi⟩ : ∃ wi, wi = gw N a k := ⟨_, rfl⟩
        have HW6 := Lib.hid hW6
        have HQ := Lib.hid hq
        have HWI := Lib.hid hwi
        clear hW6 hq hs6 hwi
        go_upto_region 8 with fail
        rw [← HW6.out, ← HQ.out]
        clear HW6 HQ x0 x1 x2
        go_cut [10] (fun s10 wx => s10 = .int .i64 wi ∧ Hid (Fr W6 wx))
        case first =>
          have hq0 := box1_ HQ6.out
          have hXS : Sl 2 eRw W6 (LT W6.heap.size) (if cap = a then some ⟨g, 0, none⟩ else some ⟨g, a * 2, none⟩) (m - a) (N.drop a) := by
            by_cases hca : cap = a
            · rw [if_pos hca]
              have : m - a = 0 := by omega
              rw [this, List.drop_eq_nil_of_le (by omega)]
              exact Sl.nil
            · rw [if_neg hca]
              exact HN6.out.sl (by omega) (fun b hb => Nat.lt_of_lt_of_le hb.1 HF6.out.size) (HN6.out.lt)
          have HXS := Lib.hid hXS
          have CI : Hid (∀ c', Calls Try.prog 66 #[.slice (if cap = a then some ⟨g, 0, none⟩ else some ⟨g, a * 2, none⟩) (m - a) c', .func (.func 67) #[] #[.pointer (some ⟨q, 0, none⟩)]] W6 fun e w' => e = .returned (.int .i64 wi) ∧ Fr W6 w') := fun c' => by
            rw [HWI.out]
            exact indexFuncRow_any W6 67 (.pointer (some ⟨q, 0, none⟩)) (fun _ _ => by kernel_rfl) (fun y => y.bit k) (N.drop a) _ _ c' HXS.out (by unfold maxLen; omega) fun y hy W A1 n1 c1 A2 n2 c2 hf h1 h2 =>
              hasBit_any W q k B hlt (box1_ (blk_go HQ6.out hf)) (Nat.lt_of_lt_of_le hql hf.size) y (HFit.out y (List.mem_of_mem_drop hy)).1 A1 n1 c1 A2 n2 c2 h1
          have ha0 : (0 : Int) ≤ (a : Int) := by omega
          have ham2 : (a : Int) ≤ (m : Int) := by omega
          have hac : a ≤ cap := by omega
          clear hXS
          by_cases hca : cap = a
          · subst hca
            obtain rfl : m = cap := by omega
            have hCI := CI.out 0
            simp only [if_true, Nat.sub_self] at hCI
            have HCI := Lib.hid hCI
            clear hCI CI
            go_wp2_with fail
            (with_reducible refine (HCI.out).mono ?_)
            rintro e w7 ⟨rfl, hf⟩
            go_wp2_with fail
            go_meet
            exact ⟨rfl, hf⟩
          · have hCI := CI.out (cap - a)
            simp only [hca, if_false] at hCI
            have HCI := Lib.hid hCI
            clear hCI CI
            go_wp2_with fail
            (with_reducible refine (HCI.out).mono ?_)
            rintro e w7 ⟨rfl, hf⟩
            go_wp2_with fail
            go_meet
            exact ⟨rfl, hf⟩
        case rest =>
          obtain ⟨rfl, HF7'⟩ := hcut
          obtain ⟨w7, rfl⟩ : ∃ w7, w7 = wc := ⟨_, rfl⟩
          have HFo7 : Hid (Fr wo w7) := HF6.out.trans HF7'.out
          have HQ7 := Lib.hid (blk_go HQ6.out HF7'.out)
          have HN7 : Hid (RsM w7 (fun b => b < w7.heap.size ∧ b ≠ g) g rest N) := (HN.out.fr HFo7.out fun b hb => hb.1).more fun b hb => ⟨Nat.lt_of_lt_of_le hb.1 HFo7.out.size, hb.2⟩
          have HC7 : Hid (Chg (fun b => b = g) W5 w7) := HC.out.trans HFo7.out.chg
          have hz7 := HFo7.out.size
          have hql7 : q < w7.heap.size := (Array.getElem?_eq_some_iff.1 HQ7.out).1
          have hbd := HBD.out
          rw [← HWI.out] at hbd
          rcases hbd.2 with hneg | ⟨i, hi, hil⟩
          · have HST : Hid (gauss (rows ++ [r]) (k + 1) = (N, a)) := by rw [Hid, HSN.out]; exact gStep_no (by rw [← HWI.out]; exact hneg)
            have hng : decide (wi < 0) = true := decide_eq_true hneg
            have hx1 := HC7.out.blk HBB1.out (by omega)
            clear hbd
            go_wp2_with fail
            go_roundw
            case rel => exact ⟨k + 1, a, N, by omega, by go_num, rfl, HST, HN7, HC7⟩
            case measure => simp [intOf]; omega
          · subst hi
            have HST : Hid (gauss (rows ++ [r]) (k + 1) = (elimR (swapR N a (a + i)) a k, a + 1)) := by rw [Hid, HSN.out]; exact gStep_yes HWI.out.symm
            obtain ⟨N1, hN1⟩ : ∃ N1, N1 = swapR N a (a + i) := ⟨_, rfl⟩
            rw [← hN1] at HST
            have hal : a < m := by rw [hNm] at hil; omega
            have hail : a + i < m := by rw [hNm] at hil; exact hil
            obtain ⟨xa, hxa⟩ : ∃ xa, N[a]? = some xa := ⟨_, List.getElem?_eq_getElem (by omega)⟩
            obtain ⟨xi, hxi⟩ : ∃ xi, N[a + i]? = some xi := ⟨_, List.getElem?_eq_getElem (by omega)⟩
            obtain ⟨Aa, na, ca, Aa2, na2, ca2, ha1, ha2, ha3, ha4⟩ := HN7.out.get hxa
            obtain ⟨Ai, ni, ci, Ai2, ni2, ci2, hi1, hi2, hi3, hi4⟩ := HN7.out.get hxi
            have hN1e : N1 = (N.set a xi).set (a + i) xa := by
              rw [hN1]; unfold swapR
              rw [List.getD_eq_getElem?_getD, List.getD_eq_getElem?_getD, hxa, hxi]; rfl
            have HN8 := HN7.out.set (i := a) (x := xi) (fun h => h.2 rfl) (by omega) hi3 hi4
            have HN9 := HN8.set (i := a + i) (x := xa) (fun h => h.2 rfl) (by rw [List.length_set]; omega) (A := Aa) (n := na) (c := ca) (A2 := Aa2) (n2 := na2) (c2 := ca2)
              ⟨ha3.1, ha3.2.keep sBool fun p hp => by rw [World.cell?_setCell_other _ _ _ _ (fun e => hp.2 (by rw [← e])), World.cell?_setCell_other _ _ _ _ (fun e => hp.2 (by rw [← e]))]⟩
              ⟨ha4.1, ha4.2.keep sByte fun p hp => by rw [World.cell?_setCell_other _ _ _ _ (fun e => hp.2 (by rw [← e])), World.cell?_setCell_other _ _ _ _ (fun e => hp.2 (by rw [← e]))]⟩
            rw [← hN1e] at HN9
            have hN1l : N1.length = m := by rw [hN1, length_swapR]; exact hNm
            have HFit1 : Hid (∀ y ∈ N1, Fit B K y) := fun y hy => by
              rw [hN1e] at hy
              rcases List.mem_or_eq_of_mem_set hy with hy | rfl
              · rcases List.mem_or_eq_of_mem_set hy with hy | rfl
                · exact HFit.out y hy
                · exact HFit.out _ (List.mem_of_getElem? hxi)
              · exact HFit.out _ (List.mem_of_getElem? hxa)
            have hs1 : IntKind.i64.wrap ((a : Int) + (i : Int)) = (a : Int) + (i : Int) := IntWalk.i64_in _ (by omega)
            have hs2 : (0 : Int) ≤ (a : Int) + (i : Int) := by omega
            have hs3 : ((a : Int) + (i : Int)).toNat = a + i := by omega
            have hs4 : (a : Int) + (i : Int) < (m : Int) := by omega
            have hng : decide ((i : Int) < 0) = false := by simp
            have hf1 : w7.frozen? ⟨g, a * 2, none⟩ = false := HN7.out.free
            have hf2 : w7.frozen? ⟨g, a * 2 + 1, none⟩ = false := HN7.out.free
            have hf3 : w7.frozen? ⟨g, (a + i) * 2, none⟩ = false := HN7.out.free
            have hf4 : w7.frozen? ⟨g, (a + i) * 2 + 1, none⟩ = false := HN7.out.free
            have HN9' := Lib.hid HN9.dr
            (have HN1 := Lib.hid hN1; clear hN1; have HN1e := Lib.hid hN1e; clear hN1e; have Hxa := Lib.hid hxa; clear hxa; have Hxi := Lib.hid hxi; clear hxi)
            clear hbd HN8 HN9 ha3 ha4 hi3 hi4
            have HCs : Hid (Chg (fun b => b = g) w7 ((((w7.setCell ⟨g, a * 2, none⟩ (.slice Ai ni ci)).setCell ⟨g, a * 2 + 1, none⟩ (.slice Ai2 ni2 ci2)).setCell ⟨g, (a + i) * 2, none⟩ (.slice Aa na ca)).setCell ⟨g, (a + i) * 2 + 1, none⟩ (.slice Aa2 na2 ca2)).drew) :=
              Chg.dr <| Chg.set (S := fun b => b = g) (p := ⟨g, (a + i) * 2 + 1, none⟩) (Chg.set (S := fun b => b = g) (p := ⟨g, (a + i) * 2, none⟩) (Chg.set (S := fun b => b = g) (p := ⟨g, a * 2 + 1, none⟩) (Chg.set (S := fun b => b = g) (p := ⟨g, a * 2, none⟩) (Chg.refl _ w7) rfl _) rfl _) rfl _) rfl _
            go_upto_region 10 with fail
            go_cut [] (fun wx => Hid (RsM wx (fun b => b < w7.heap.size ∧ b ≠ g) g rest N1) ∧ Hid (Chg (fun b => b = g) w7 wx))
            case first =>
              rcases Nat.eq_zero_or_pos i with hi0 | hi0
              · have hai : a + i = a := by omega
                rw [hai] at hs3 hi1 hi2 hf3 hf4 HN9' HCs
                have hia : (a : Int) + (i : Int) < (m : Int) := by omega
                have e1 := ha1.symm.trans hi1
                have e2 := ha2.symm.trans hi2
                injection e1 with e1
                injection e1 with e3 e4 e5
                injection e2 with e2
                injection e2 with e6 e7 e8
                subst e3 e4 e5 e6 e7 e8
                clear hi0 hai hi1 hi2
                go_region_with (fail)
                all_goals
                  go_wp2_with fail
                  go_meet
                  exact ⟨HN9'.out, HCs.out⟩
              · have hi1' : ¬ i = 0 := by omega
                go_region_with (fail)
                all_goals
                  go_wp2_with fail
                  go_meet
                  exact ⟨HN9'.out, HCs.out⟩
            case rest =>
              obtain ⟨HN8, HC8'⟩ := hcut
              obtain ⟨w8, rfl⟩ : ∃ w8, w8 = wc := ⟨_, rfl⟩
              have HC8 : Hid (Chg (fun b => b = g) W5 w8) := HC7.out.trans HC8'.out
              have HQ8 : Hid (w8.heap[q]? = some (.cells #[.int .i64 k] 3 (0, 0))) := HC8'.out.blk HQ7.out hqg
              have hz8 := HC8'.out.size
              have hql8 : q < w8.heap.size := by omega
              have HPV : Hid (N1[a]? = some xi) := by
                rw [Hid, HN1.out, swapR_get (by omega) (by omega), sw_left]; exact Hxi.out
              have hN8b : Hid (∀ b, b < w7.heap.size → b < w8.heap.size) := fun b hb => by omega
              clear ha1 ha2 hi1 hi2 hf1 hf2 hf3 hf4 HN9' HCs
              go_wp2_with fail
              go_loopw [68] (fun s68 wr => ∃ t : Nat, t ≤ m ∧ s68 = .int .i64 t ∧ Hid (RsM wr (fun b => b < wr.heap.size ∧ b ≠ g) g rest (elimTo N1 a k t)) ∧ Hid (Chg (fun b => b = g) w8 wr)) (fun t _ => m - (intOf t).toNat)
              case atStart => exact ⟨0, Nat.zero_le _, rfl, by rw [elimTo_zero]; exact HN8.out.more fun b hb => ⟨hN8b.out b hb.1, hb.2⟩, Chg.refl _ _⟩
              case round =>
                obtain ⟨t, ht, rfl, HE, HCt⟩ := hrel
                obtain ⟨wt, rfl⟩ : ∃ wt : World, wt = wr := ⟨_, rfl⟩
                have HCT : Hid (Chg (fun b => b = g) W5 wt) := HC8.out.trans HCt.out
                have HQt : Hid (wt.heap[q]? = some (.cells #[.int .i64 k] 3 (0, 0))) := HCt.out.blk HQ8.out hqg
                have hqlt : q < wt.heap.size := (Array.getElem?_eq_some_iff.1 HQt.out).1
                by_cases htm : t < m
                · obtain ⟨xt, hxt⟩ : ∃ xt, N1[t]? = some xt := ⟨_, List.getElem?_eq_getElem (by omega)⟩
                  have het : (elimTo N1 a k t)[t]? = some xt := by rw [elimTo_get (by omega), if_neg (by omega)]; exact hxt
                  have hep : (elimTo N1 a k t)[a]? = some xi := elimTo_piv (by omega) HPV.out
                  obtain ⟨At, nt, ct, At2, nt2, ct2, t1, t2, t3, t4⟩ := HE.out.get het
                  have hft := HFit1.out xt (List.mem_of_getElem? hxt)
                  obtain rfl : nt = B := t3.2.1.symm.trans hft.1
                  obtain rfl : nt2 = K := t4.2.1.symm.trans hft.2
                  obtain ⟨adt, rfl, hEt⟩ := t3.2.els (by omega)
                  obtain ⟨bt, hbt, hct⟩ := hEt.bool hlt
                  have HBT : Hid (xt.bit k = bt) := by unfold Rw.bit; rw [Hid, List.getD_eq_getElem?_getD, hbt]; rfl
                  have hq0 := box1_ HQt.out
                  have HES := Lib.hid (elimTo_succ (k := k) HPV.out hxt)
                  have HET := Lib.hid (elimTo_same het)
                  have hadl : adt.block < wt.heap.size := hEt.2.1.1
                  clear hEt hbt
                  go_upto_region 14 with fail
                  go_cut [83] (fun s83 wx => s83 = .bool (decide (t ≠ a) && bt) ∧ Hid (Fr wt wx))
                  case first =>
                    by_cases hta : t = a
                    · subst hta
                      have e1 : ((t : Int) != (t : Int)) = false := by simp
                      go_quiet (fail)
                      go_wp2_with fail
                      go_meet
                      exact ⟨by simp, by (repeat' (first | exact Below.refl _ _ | refine below_drewN ?_ _ | refine Below.drew ?_ | refine frA ?_ _))⟩
                    · have e1 : ((t : Int) != (a : Int)) = true := by rw [bne_iff_ne]; omega
                      have e2 : decide (t ≠ a) = true := by simpa using hta
                      have HTA := Lib.hid e2
                      clear hta e2
                      go_quiet (fail)
                      go_wp2_with fail
                      go_meet
                      exact ⟨by rw [HTA.out, Bool.true_and], by (repeat' (first | exact Below.refl _ _ | refine below_drewN ?_ _ | refine Below.drew ?_ | refine frA ?_ _))⟩
                  case rest =>
                    obtain ⟨rfl, HFq⟩ := hcut
                    obtain ⟨w9, rfl⟩ : ∃ w9, w9 = wc := ⟨_, rfl⟩
                    have HE9 : Hid (RsM w9 (fun b => b < w9.heap.size ∧ b ≠ g) g rest (elimTo N1 a k t)) := (HE.out.fr HFq.out fun b hb => hb.1).more fun b hb => ⟨Nat.lt_of_lt_of_le hb.1 HFq.out.size, hb.2⟩
                    have HC9 : Hid (Chg (fun b => b = g) w8 w9) := HCt.out.trans HFq.out.chg
                    have hz9 := HC9.out.size
                    have HET2 := Lib.hid het
                    have HEP2 := Lib.hid hep
                    obtain ⟨bb, hbb⟩ : ∃ bb, bb = (decide (t ≠ a) && bt) := ⟨_, rfl⟩
                    have HBB := Lib.hid hbb
                    rw [← hbb]
                    clear hbb t1 t2 t3 t4 hct het hep hq0
                    cases bb with
                    | false =>
                      have HSM : Hid (elimTo N1 a k (t + 1) = elimTo N1 a k t) := by
                        rw [Hid, HES.out]
                        have : (if t = a then xt else outOf k xi xt) = xt := by
                          split
                          · rfl
                          · rename_i hta
                            have h1 := HBB.out
                            rw [show decide (t ≠ a) = true by simpa using hta, Bool.true_and] at h1
                            unfold outOf
                            rw [HBT.out, ← h1]; rfl
                        rw [this]; exact HET.out
                      go_wp2_with fail
                      go_roundw
                      case rel => exact ⟨t + 1, by omega, by go_num, by rw [HSM.out]; exact HE9, HC9⟩
                      case measure => simp [intOf]; omega
                    | true =>
                      have hta : t ≠ a ∧ bt = true := by
                        have h1 := HBB.out.symm
                        rw [Bool.and_eq_true] at h1
                        exact ⟨by simpa using h1.1, h1.2⟩
                      have HSM : Hid (elimTo N1 a k (t + 1) = (elimTo N1 a k t).set t (rowAdd xt xi)) := by
                        rw [Hid, HES.out, if_neg hta.1]
                        unfold outOf
                        rw [HBT.out, hta.2]; rfl
                      obtain ⟨At, n5, ct, At2, n6, ct2, t1, t2, t3, t4⟩ := HE9.out.get HET2.out
                      obtain ⟨Ap, n7, cp, Ap2, n8, cp2, s1, s2, s3, s4⟩ := HE9.out.get HEP2.out
                      have hft := HFit1.out xt (List.mem_of_getElem? hxt)
                      have hfp := HFit1.out xi (List.mem_of_getElem? HPV.out)
                      obtain rfl : n5 = nt := t3.2.1.symm.trans hft.1
                      obtain rfl : n6 = nt2 := t4.2.1.symm.trans hft.2
                      obtain rfl : n7 = n5 := s3.2.1.symm.trans hfp.1
                      obtain rfl : n8 = n6 := s4.2.1.symm.trans hfp.2
                      have CB : Hid (∀ W, Fr w9 W → Calls Try.prog 68 #[.agg #[.slice At n7 ct, .slice At2 n8 ct2], .agg #[.slice Ap n7 cp, .slice Ap2 n8 cp2]] W fun e w' => ∃ A c A' c', e = .returned (.agg #[.slice A n7 c, .slice A' n8 c']) ∧ Bol w' (NW w9.heap.size w'.heap.size) A n7 c (rowAdd xt xi).has ∧ Byt w' (NW w9.heap.size w'.heap.size) A' n8 c' (rowAdd xt xi).data ∧ Fr w9 w') := fun W hf => by
                        have hlt0 : ∀ b, (b < w9.heap.size ∧ b ≠ g) → LT w9.heap.size b := fun b hb => hb.1
                        refine (refBoth_any W n7 n8 ⟨by omega, by omega⟩ ⟨by omega, by omega⟩ At At2 Ap Ap2 ct ct2 cp cp2 xt xi hft hfp ((t3.2.more sBool hlt0).go sBool hf) ((t4.2.more sByte hlt0).go sByte hf) ((s3.2.more sBool hlt0).go sBool hf) ((s4.2.more sByte hlt0).go sByte hf) t4.1.2 s4.1.2).mono ?_
                        rintro e w' ⟨A, c, A', c', rfl, h1, h2, hf2⟩
                        have hss := hf.size
                        exact ⟨A, c, A', c', rfl, ⟨h1.1, h1.2.more sBool fun y hy => ⟨Nat.le_trans hss hy.1, hy.2⟩⟩, ⟨h2.1, h2.2.more sByte fun y hy => ⟨Nat.le_trans hss hy.1, hy.2⟩⟩, hf.trans hf2⟩
                      have hgl9 : g < w9.heap.size := HE9.out.lt
                      have u1 : w9.frozen? ⟨g, t * 2, none⟩ = false := HE9.out.free
                      have u2 : w9.frozen? ⟨g, t * 2 + 1, none⟩ = false := HE9.out.free
                      have HEl : Hid ((elimTo N1 a k t).length = m) := by rw [Hid, length_elimTo (by omega)]; exact hN1l
                      have H1 := Lib.hid t1
                      have H2 := Lib.hid t2
                      have H3 := Lib.hid u1
                      have H4 := Lib.hid u2
                      clear hta t3 t4 s3 s4 hft hfp
                      go_wp2_with fail
                      go_region_with (first | (go_at_call 68; (with_reducible refine (CB.out _ (by (repeat' (first | exact Below.refl _ _ | refine below_drewN ?_ _ | refine Below.drew ?_ | refine frA ?_ _)))).mono ?_); rintro e w10 ⟨A9, c9, A9', c9', rfl, k3, k4, hf⟩; have HK3 := Lib.hid k3; have HK4 := Lib.hid k4; have HF10 := Lib.hid hf; have v1 := (hf.cell (p := ⟨g, t * 2, none⟩) hgl9).trans H1.out; have v2 := (hf.cell (p := ⟨g, t * 2 + 1, none⟩) hgl9).trans H2.out; have v3 := (hf.frozen (p := ⟨g, t * 2, none⟩) hgl9).trans H3.out; have v4 := (hf.frozen (p := ⟨g, t * 2 + 1, none⟩) hgl9).trans H4.out; have v5 : g < w10.heap.size := Nat.lt_of_lt_of_le hgl9 hf.size; clear k3 k4 hf) | fail)
                      all_goals
                        have hz10 := HF10.out.size
                        have HE10 := (((HE9.out.fr HF10.out fun b hb => hb.1).more (T := fun b => b < w10.heap.size ∧ b ≠ g) fun b hb => ⟨Nat.lt_of_lt_of_le hb.1 hz10, hb.2⟩).set (i := t) (x := rowAdd xt xi) (fun h => h.2 rfl) (by rw [HEl.out]; exact htm) ⟨HK3.out.1, HK3.out.2.more sBool fun y hy => ⟨hy.2, by have := hy.1; omega⟩⟩ ⟨HK4.out.1, HK4.out.2.more sByte fun y hy => ⟨hy.2, by have := hy.1; omega⟩⟩)
                        rw [← HSM.out] at HE10
                        have HE11 : Hid (RsM ((w10.setCell ⟨g, t * 2, none⟩ (.slice A9 n7 c9)).setCell ⟨g, t * 2 + 1, none⟩ (.slice A9' n8 c9')) (fun b => b < ((w10.setCell ⟨g, t * 2, none⟩ (.slice A9 n7 c9)).setCell ⟨g, t * 2 + 1, none⟩ (.slice A9' n8 c9')).heap.size ∧ b ≠ g) g rest (elimTo N1 a k (t + 1))) := HE10.more fun b hb => by rw [size_setCell, size_setCell]; exact hb
                        have HC11 : Hid (Chg (fun b => b = g) w8 ((w10.setCell ⟨g, t * 2, none⟩ (.slice A9 n7 c9)).setCell ⟨g, t * 2 + 1, none⟩ (.slice A9' n8 c9'))) := Chg.set (S := fun b => b = g) (p := ⟨g, t * 2 + 1, none⟩) (Chg.set (S := fun b => b = g) (p := ⟨g, t * 2, none⟩) (HC9.out.trans HF10.out.chg) rfl _) rfl _
                        clear HE10 v1 v2 v3 v4 t1 t2 s1 s2 u1 u2
                        go_wp2_with fail
                        go_roundw
                        case rel => exact ⟨t + 1, by omega, by go_num, HE11, HC11⟩
                        case measure => simp [intOf]; omega
                · obtain rfl : t = m := by omega
                  have hEA : elimTo N1 a k t = elimR N1 a k := by
                    have := elimTo_all N1 a k
                    rw [hN1l] at this; exact this
                  rw [hEA] at HE
                  clear hEA
                  go_wp2_with fail
                  go_roundw
                  case rel => exact ⟨k + 1, a + 1, _, by omega, by go_num, by go_num, HST, HE, HCT⟩
                  case measure => simp [intOf]; omega
      · obtain rfl : k = B := by omega
        have hck0 : sysCheck (k : Nat) (K : Nat) rows = 0 := sysCheck_of ⟨b1, b2⟩ ⟨k1, k2⟩ HS.out
        have hga := gAdd_eq HS.out HFR.out
        unfold gAdd at hga
        rw [HG.out] at hga
        simp only at hga
        have hsa : sysAdd ⟨k, K, rows⟩ r = if (addRow rows r).2.2 = 0 then (⟨k, K, (addRow rows r).1⟩, (addRow rows r).2.1, 0) else (Sy.none, false, (addRow rows r).2.2) := by
          unfold sysAdd
          rw [if_neg (by simp [hck0]), if_neg (by have := HFR.out.1; have := HFR.out.2; simp only; omega)]
        have hx1 := HC.out.blk HBB1.out (by omega)
        have hz1 := HC.out.blk HBB3.out (by omega)
        (obtain ⟨u0, u1, u2⟩ := box3_ hx1)
        (obtain ⟨z0, z1, z2⟩ := box3_ hz1)
        have y0 := blk_free (i := 0) hz1
        have y1 := blk_free (i := 1) hz1
        have y2 := blk_free (i := 2) hz1
        have hzl := (Array.getElem?_eq_some_iff.1 hz1).1
        have hul := (Array.getElem?_eq_some_iff.1 hx1).1
        have HF : Hid (Fr w wo) := HC.out.fr HFW.out fun y hy => by omega
        have hp13 : p1 ≠ p3 := by omega
        have hp31 : p3 ≠ p1 := by omega
        have hgp3 : g ≠ p3 := by omega
        have hpw : w.heap.size ≤ p3 := by omega
        have hcm2 : cap ≤ maxLen := by unfold maxLen; omega
        have hz3 := hz1
        clear hx1 hz1 x0 x1 x2
        have HNN : Hid (RsM wo (fun b => (b < wo.heap.size ∧ b ≠ g) ∧ b ≠ p3) g rest N) := HN.out.notBlk hz3 (sysCells_noB _ _ _ (by simp)) (sysCells_noY _ _ _ (by simp))
        have HRS : Hid (∀ w9, Chg (fun b => b = p3) wo w9 → Sl 2 eRw w9 (LT w9.heap.size) (some ⟨g, 0, none⟩) m N) := fun w9 hc => by
          have hs := hc.size
          have := (HNN.out.chg hc (fun e => hgp3 e) fun b hb => ⟨hb.1.1, hb.2⟩).sl (k := 0) (n := m) (T := LT w9.heap.size) (by omega) (fun b hb => Nat.lt_of_lt_of_le hb.1.1 hs) (Nat.lt_of_lt_of_le HN.out.lt hs)
          simpa using this
        clear hz3
        by_cases ham2 : a = m
        · subst ham2
          rw [if_pos hNm.symm] at hga
          rw [← hga] at hsa
          have E : Hid (sysAdd ⟨k, K, rows⟩ r = (⟨k, K, N⟩, true, 0)) := by rw [Hid, hsa]; simp
          have HRF : Hid (∀ v0 v1 v2, Sl 2 eRw (((wo.setCell ⟨p3, 0, none⟩ v0).setCell ⟨p3, 1, none⟩ v1).setCell ⟨p3, 2, none⟩ v2) (LT (((wo.setCell ⟨p3, 0, none⟩ v0).setCell ⟨p3, 1, none⟩ v1).setCell ⟨p3, 2, none⟩ v2).heap.size) (some ⟨g, 0, none⟩) a N) := fun v0 v1 v2 => HRS.out _ (Chg.of (grw3_ ⟨rfl, rfl, rfl, Nat.le_refl _, fun _ _ _ => rfl⟩))
          clear hga hsa hck0
          go_wp2_with fail
          rw [E.out]
          refine bodyPost_ret (v := .tuple #[.agg #[.int .i64 k, .int .i64 K, .slice (some ⟨g, 0, none⟩) a cap], .bool true, .int .i64 0]) ?_ rfl ?_
          · simp [results, Try.results22, go_sem, z0, z1, z2, hzl]
          · exact ⟨some ⟨g, 0, none⟩, a, cap, rfl, ⟨hm2, hnc, hcm2⟩, HRF.out _ _ _, bel3_ HF.out hpw⟩
        · have hal : a < m := by omega
          obtain ⟨xa, hxa⟩ : ∃ xa, N[a]? = some xa := ⟨_, List.getElem?_eq_getElem (by omega)⟩
          obtain ⟨Aa, na, ca, Aa2, na2, ca2, ha1, ha2, ha3, ha4⟩ := HN.out.get hxa
          have hfa := HFit.out xa (List.mem_of_getElem? hxa)
          obtain rfl : na2 = K := ha4.2.1.symm.trans hfa.2
          rw [if_neg (by omega), List.getD_eq_getElem?_getD, hxa, Option.getD_some] at hga
          have ha5 : wo.cell? ⟨g, a * 2 + 1, none⟩ = some (.slice Aa2 na2 ca2) := ha2
          have HDD := Lib.hid ha4.2
          have hat : decide ((a : Int) = (m : Int)) = false := by simp; omega
          have hat2 : ((a : Int) == (m : Int)) = false := by rw [beq_eq_false_iff_ne]; omega
          have HGA := Lib.hid hga
          have HSA := Lib.hid hsa
          have hdl := hfa.2
          have HDL := Lib.hid hdl
          clear hga hsa hck0 ha1 ha2 ha3 ha4 hfa hdl
          go_wp2_with fail
          go_loopw [116] (fun s116 wr => ∃ j : Nat, j ≤ na2 ∧ s116 = .int .i64 j ∧ Hid (∀ i c, i < j → xa.data[i]? = some c → c = 0) ∧ wo = wr) (fun s _ => na2 - (intOf s).toNat)
          case atStart => exact ⟨0, Nat.zero_le _, rfl, fun i c hi => by omega, rfl⟩
          case round =>
            obtain ⟨j, hj, rfl, HZ, rfl⟩ := hrel
            by_cases hjl : j < na2
            · obtain ⟨ad2, rfl, hE2⟩ := HDD.out.els (by omega)
              obtain ⟨cb, hcb, hcc⟩ := hE2.byte hjl
              by_cases hc0 : cb = 0
              · subst hc0
                have HZ2 : Hid (∀ i c, i < j + 1 → xa.data[i]? = some c → c = 0) := fun i c hi h => by
                  by_cases e : i = j
                  · subst e; rw [hcb] at h; injection h with h; exact h.symm
                  · exact HZ.out i c (by omega) h
                have hcc0 : wo.cell? (ad2.add j) = some (.int .u8 0) := hcc
                clear hE2 hcb hcc
                go_wp2_with fail
                go_roundw
                case rel => exact ⟨j + 1, by omega, by go_num, HZ2, by first | rfl | trivial⟩
                case measure => simp [intOf]; omega
              · have hnz : (((cb.toNat : Nat) : Int) != 0) = true := by
                  rw [bne_iff_ne]
                  intro e
                  exact hc0 (by rw [← UInt8.toNat_inj]; simp; omega)
                have hall : xa.data.all (fun c => c == 0) = false := by
                  rw [Bool.eq_false_iff]
                  intro h
                  have := List.all_eq_true.1 h cb (List.mem_of_getElem? hcb)
                  exact hc0 (by simpa using this)
                have E : Hid (sysAdd ⟨k, na2, rows⟩ r = (Sy.none, false, 9)) := by
                  have h1 := HGA.out
                  rw [hall, if_neg (by simp)] at h1
                  rw [Hid, HSA.out, ← h1]; simp
                clear hE2 hcb hall
                go_wp2_with fail
                rw [E.out]
                refine bodyPost_ret (v := .tuple #[.agg #[.int .i64 0, .int .i64 0, .slice none 0 0], .bool false, .int .i64 9]) ?_ rfl ?_
                · simp [results, Try.results22, go_sem, z0, z1, z2, hzl]
                · exact ⟨none, 0, 0, rfl, ⟨by omega, by omega, by unfold maxLen; omega⟩, Sl.nil, bel3_ HF.out hpw⟩
            · obtain rfl : j = na2 := by omega
              have hall : xa.data.all (fun c => c == 0) = true := by
                rw [List.all_eq_true]
                intro c hc
                obtain ⟨i, hi⟩ := List.mem_iff_getElem?.1 hc
                have := HZ.out i c (by have := (List.getElem?_eq_some_iff.1 hi).1; have := HDL.out; omega) hi
                simpa using this
              have E : Hid (sysAdd ⟨k, j, rows⟩ r = (⟨k, j, N.take a⟩, false, 0)) := by
                have h1 := HGA.out
                rw [hall, if_pos rfl] at h1
                rw [Hid, HSA.out, ← h1]; simp
              have hac : a ≤ cap := by omega
              have hac2 : (a : Int) ≤ (cap : Int) := by omega
              have ha00 : (0 : Int) ≤ (a : Int) := by omega
              clear hall
              go_wp2_with fail
              go_region
              all_goals
                go_wp2_with fail
                rw [E.out]
                refine bodyPost_ret (v := .tuple #[.agg #[.int .i64 k, .int .i64 j, .slice (some ⟨g, 0, none⟩) a cap], .bool false, .int .i64 0]) ?_ rfl ?_
                · simp [results, Try.results22, go_sem, z0, z1, z2, hzl]
                · refine ⟨some ⟨g, 0, none⟩, a, cap, rfl, ⟨by omega, hac, hcm2⟩, ?_, ?_⟩
                  · exact (HRS.out _ (Chg.dr (Chg.of (grw3_ ⟨rfl, rfl, rfl, Nat.le_refl _, fun _ _ _ => rfl⟩)))).pre (by omega)
                  · exact (bel3_ HF.out hpw).drew
end Go.Proofs.Ytnfjghldcopaaaa
