/- solve.add: a row added to another one, in place. No condition. -/
import Derived.Test.YtojoodmnmhcojaaChg
import Derived.Test.YtojoodmnmhcojaaSolP
import Derived.Test.YtojoodmnmhcojaaBox
import Derived.Deep.RegionWith
import Derived.Deep.RegionHeld3
import Derived.StillTailTactics
set_option linter.unusedSimpArgs false
set_option linter.unusedVariables false
namespace Go.Proofs.Ytojoodmnmhcojaa
open Go.RowKit
attribute [local irreducible] wpList

def bxTo (acc b : List Bool) (i : Nat) : List Bool := (bx acc b).take i ++ acc.drop i
theorem bxTo_zero (acc b : List Bool) : bxTo acc b 0 = acc := by simp [bxTo]
theorem length_bx {a b : List Bool} (h : a.length = b.length) : (bx a b).length = a.length := by simp [bx, h]
theorem bxTo_all {acc b : List Bool} {n : Nat} (ha : acc.length = n) (hb : b.length = n) : bxTo acc b n = bx acc b := by
  rw [bxTo, List.drop_eq_nil_of_le (by omega), List.take_of_length_le (by rw [length_bx (by omega)]; omega), List.append_nil]
theorem length_bxTo {acc b : List Bool} {i : Nat} (h : acc.length = b.length) (hi : i ≤ acc.length) : (bxTo acc b i).length = acc.length := by
  simp [bxTo, length_bx h]; omega
theorem bxTo_get {acc b : List Bool} {i : Nat} {x : Bool} (h : acc.length = b.length) (hx : acc[i]? = some x) : (bxTo acc b i)[i]? = some x := by
  have hi := (List.getElem?_eq_some_iff.1 hx).1
  rw [bxTo, List.getElem?_append_right (by rw [List.length_take]; omega), List.length_take, length_bx h, Nat.min_eq_left (by omega), Nat.sub_self, List.getElem?_drop]
  simpa using hx
theorem bxTo_succ {acc b : List Bool} {i : Nat} {x y : Bool} (h : acc.length = b.length) (hx : acc[i]? = some x) (hy : b[i]? = some y) : (bxTo acc b i).set i (x != y) = bxTo acc b (i + 1) := by
  have hi := (List.getElem?_eq_some_iff.1 hx).1
  have hz : (bx acc b)[i]? = some (x != y) := by simp [bx, List.getElem?_zipWith, hx, hy]
  have hl : ((bx acc b).take i).length = i := by rw [List.length_take, length_bx h]; omega
  rw [bxTo, bxTo, take_snoc' hz, drop_cons hx, List.set_append_right _ _ (by omega), hl, Nat.sub_self, List.set_cons_zero, List.append_assoc]
  rfl

set_option maxRecDepth 100000 in
set_option maxHeartbeats 2000000 in
theorem rowAdd_any (w : World) (g o h d : Nat) (n ch m cd : Nat) (a b : Rw) (tb tu : TypeId) (A2 A3 : Option Addr) (c2 c3 : Nat)
    (c0 : w.cell? ⟨g, o, none⟩ = some (.slice (some ⟨h, 0, none⟩) n ch)) (c1 : w.cell? ⟨g, o + 1, none⟩ = some (.slice (some ⟨d, 0, none⟩) m cd))
    (k1 : Blk Value.bool w tb h a.has) (k2 : Blk bV w tu d a.data) (hd : h ≠ d) (hg : g ≠ h) (gd : g ≠ d)
    (la : a.has.length = n) (lb : a.data.length = m) (h1 : n ≤ lim) (h2 : m ≤ lim)
    (b1 : Sl 1 eBool w (fun x => x < w.heap.size ∧ x ≠ h ∧ x ≠ d) A2 n b.has) (b2 : Sl 1 eByte w (fun x => x < w.heap.size ∧ x ≠ h ∧ x ≠ d) A3 m b.data) :
    Calls Try.prog 70 #[.pointer (some ⟨g, o, none⟩), .agg #[.slice A2 n c2, .slice A3 m c3]] w fun e w' => e = .returned (.tuple #[]) ∧ Blk Value.bool w' tb h (bx a.has b.has) ∧ Blk bV w' tu d (zx a.data b.data) ∧ Chg (fun x => x = h ∨ x = d) w w' := by
  unfold lim at h1 h2
  have hgl : g < w.heap.size := World.block_lt_of_cell? w _ c0
  have hhl := k1.lt
  have hdl := k2.lt
  obtain ⟨W1, hW1⟩ : ∃ W1, W1 = w.alloc (.cells #[.slice A2 n c2, .slice A3 m c3] 106) := ⟨_, rfl⟩
  have HF1 : Hid (Fr w W1) := by rw [hW1]; exact frAlloc _ _
  have HB : Hid (W1.heap[w.heap.size]? = some (.cells #[.slice A2 n c2, .slice A3 m c3] 106 (0, 0))) := by rw [hW1]; exact heap_new rfl
  have q0 : W1.cell? ⟨g, o, none⟩ = some (.slice (some ⟨h, 0, none⟩) n ch) := (HF1.out.cell (p := ⟨g, o, none⟩) hgl).trans c0
  have q1 : W1.cell? ⟨g, o + 1, none⟩ = some (.slice (some ⟨d, 0, none⟩) m cd) := (HF1.out.cell (p := ⟨g, o + 1, none⟩) hgl).trans c1
  have B1 : Hid (Sl 1 eBool W1 (fun x => x < w.heap.size ∧ x ≠ h ∧ x ≠ d) A2 n b.has) := b1.keep sBool fun p hp => HF1.out.cell hp.1
  have B2 : Hid (Sl 1 eByte W1 (fun x => x < w.heap.size ∧ x ≠ h ∧ x ≠ d) A3 m b.data) := b2.keep sByte fun p hp => HF1.out.cell hp.1
  have K1 := Lib.hid (k1.fr HF1.out)
  have K2 := Lib.hid (k2.fr HF1.out)
  have hz1 : w.heap.size < W1.heap.size := (Array.getElem?_eq_some_iff.1 HB.out).1
  have HW1 := Lib.hid hW1
  have p0 := q0
  rw [hW1] at p0
  have lhb := b1.1
  have ldb := b2.1
  clear k1 k2 b1 b2 c0 c1 hW1
  (have La := Lib.hid la; clear la; have Lb := Lib.hid lb; clear lb; have Lhb := Lib.hid lhb; clear lhb; have Ldb := Lib.hid ldb; clear ldb)
  go_enter Try.func70, Try.ntmps70
  go_wp2_with fail
  rw [← HW1.out]
  clear HW1 p0
  have hb0 := HB.out
  (obtain ⟨z0, z1⟩ := box2_ hb0)
  clear hb0
  go_wp2_with fail
  go_loopw [11] (fun s11 wr => ∃ k : Nat, k ≤ n ∧ s11 = .int .i64 k ∧ Hid (Blk Value.bool wr tb h (bxTo a.has b.has k)) ∧ Hid (Chg (fun x => x = h) W1 wr)) (fun i _ => n - (intOf i).toNat)
  case atStart => exact ⟨0, Nat.zero_le _, rfl, by rw [bxTo_zero]; exact K1, Chg.refl _ _⟩
  case round =>
    obtain ⟨k, hk, rfl, HK, HC⟩ := hrel
    by_cases hlt : k < n
    · obtain ⟨ab, rfl, hEb⟩ := B1.out.els (by omega)
      obtain ⟨y, hy, hcy⟩ := hEb.bool hlt
      have hpb := hEb.2.1
      have hcy2 : wr.cell? (ab.add k) = some (.bool y) := (HC.out.cell (by rw [block_of_add]; exact Nat.lt_of_lt_of_le hpb.1 HF1.out.size) (by rw [block_of_add]; exact hpb.2.1)).trans hcy
      obtain ⟨x, hx⟩ : ∃ x, a.has[k]? = some x := ⟨_, List.getElem?_eq_getElem (by rw [La.out]; exact hlt)⟩
      have hlen : a.has.length = b.has.length := La.out.trans Lhb.out.symm
      have hcx := HK.out.cell (bxTo_get hlen hx)
      have hfx := HK.out.free (i := k)
      have g0 : wr.cell? ⟨g, o, none⟩ = some (.slice (some ⟨h, 0, none⟩) n ch) := (HC.out.cell (Nat.lt_of_lt_of_le hgl HF1.out.size) hg).trans q0
      have hbw := HC.out.blk HB.out (by omega)
      (obtain ⟨u0, u1⟩ := box2_ hbw)
      have R : Hid (Blk Value.bool (wr.setCell ⟨h, k, none⟩ (.bool (x != y))) tb h (bxTo a.has b.has (k + 1))) := by
        rw [← bxTo_succ hlen hx hy]
        exact HK.out.set (by rw [length_bxTo hlen (by rw [La.out]; omega), La.out]; exact hlt) _
      have R2 : Hid (Chg (fun x => x = h) W1 (wr.setCell ⟨h, k, none⟩ (.bool (!x == y))).drew) := (HC.out.set rfl _).drew
      clear hEb hy hcy hx hlen hbw HK
      go_wp2_with fail
      go_still_tail 19, (by kernel_rfl)
      go_wp2_with fail
      go_roundw
      case rel => exact ⟨k + 1, by omega, by go_num, R, R2⟩
      case measure => simp [intOf]; omega
    · obtain rfl : k = n := by omega
      rw [bxTo_all La.out Lhb.out] at HK
      have g1 : wr.cell? ⟨g, o + 1, none⟩ = some (.slice (some ⟨d, 0, none⟩) m cd) := (HC.out.cell (Nat.lt_of_lt_of_le hgl HF1.out.size) hg).trans q1
      have K3 := Lib.hid (K2.out.chg HC.out (fun e => hd e.symm))
      obtain ⟨Wm, hWm⟩ : ∃ Wm, Wm = wr := ⟨_, rfl⟩
      rw [← hWm] at g1 K3 HK HC ⊢
      clear hWm
      go_wp2_with fail
      go_loopw [39] (fun s39 wr => ∃ k : Nat, k ≤ m ∧ s39 = .int .i64 k ∧ Hid (Blk bV wr tu d (xorTo a.data b.data k)) ∧ Hid (Chg (fun x => x = d) Wm wr)) (fun i _ => m - (intOf i).toNat)
      case atStart => exact ⟨0, Nat.zero_le _, rfl, by rw [xorTo_zero]; exact K3, Chg.refl _ _⟩
      case round =>
        obtain ⟨k, hk, rfl, HK3, HC3⟩ := hrel
        by_cases hlt : k < m
        · obtain ⟨ab, rfl, hEb⟩ := B2.out.els (by omega)
          obtain ⟨y, hy, hcy⟩ := hEb.byte hlt
          have hpb := hEb.2.1
          have hpl : ab.block < Wm.heap.size := Nat.lt_of_lt_of_le (Nat.lt_of_lt_of_le hpb.1 HF1.out.size) HC.out.size
          have hcy2 : wr.cell? (ab.add k) = some (.int .u8 (y.toNat : Int)) := ((HC3.out.cell (by rw [block_of_add]; exact hpl) (by rw [block_of_add]; exact hpb.2.2)).trans (HC.out.cell (by rw [block_of_add]; exact Nat.lt_of_lt_of_le hpb.1 HF1.out.size) (by rw [block_of_add]; exact hpb.2.1))).trans hcy
          obtain ⟨x, hx⟩ : ∃ x, a.data[k]? = some x := ⟨_, List.getElem?_eq_getElem (by rw [Lb.out]; exact hlt)⟩
          have hlen : a.data.length = b.data.length := Lb.out.trans Ldb.out.symm
          have hcx : wr.cell? ⟨d, k, none⟩ = some (.int .u8 (x.toNat : Int)) := HK3.out.cell (xorTo_get hlen hx)
          have hfx := HK3.out.free (i := k)
          have g0 : wr.cell? ⟨g, o + 1, none⟩ = some (.slice (some ⟨d, 0, none⟩) m cd) := (HC3.out.cell (Nat.lt_of_lt_of_le (Nat.lt_of_lt_of_le hgl HF1.out.size) HC.out.size) gd).trans g1
          have hbw := HC3.out.blk (HC.out.blk HB.out (by omega)) (by omega)
          (obtain ⟨u0, u1⟩ := box2_ hbw)
          have hxor := u8_xor_byte x y
          have R : Hid (Blk bV (wr.setCell ⟨d, k, none⟩ (.int .u8 ((x.toNat ^^^ y.toNat : Nat) : Int))).drew tu d (xorTo a.data b.data (k + 1))) := by
            rw [← UInt8.toNat_xor, ← xorTo_succ hlen hx hy]
            exact HK3.out.set (by rw [length_xorTo hlen (by rw [Lb.out]; omega), Lb.out]; exact hlt) _
          have R2 : Hid (Chg (fun x => x = d) Wm (wr.setCell ⟨d, k, none⟩ (.int .u8 ((x.toNat ^^^ y.toNat : Nat) : Int))).drew) := (HC3.out.set rfl _).drew
          clear hEb hy hcy hx hlen hbw HK3
          go_wp2_with fail
          go_still_tail 14, (by kernel_rfl)
          go_wp2_with fail
          go_roundw
          case rel => exact ⟨k + 1, by omega, by go_num, R, R2⟩
          case measure => simp [intOf]; omega
        · obtain rfl : k = m := by omega
          rw [xorTo_all Lb.out Ldb.out] at HK3
          go_wp2_with fail
          go_end0
          exact ⟨rfl, HK.out.chg HC3.out (fun e => hd e), HK3.out, HF1.out.chg.trans ((HC.out.more fun _ e => .inl e).trans (HC3.out.more fun _ e => .inr e))⟩
end Go.Proofs.Ytojoodmnmhcojaa
