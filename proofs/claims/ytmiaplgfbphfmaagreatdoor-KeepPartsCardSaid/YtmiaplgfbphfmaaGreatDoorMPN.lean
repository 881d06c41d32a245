/- note.Parse. Condition: the library's variables are laid. -/
import Derived.Test.YtmiaplgfbphfmaaGreatDoorMPV
import Derived.Test.YtmiaplgfbphfmaaGreatDoorMPJ
import Derived.Test.YtmiaplgfbphfmaaGreatDoorMPGB
import Derived.Test.YtmiaplgfbphfmaaGreatDoorMPQ
import Derived.Test.YtmiaplgfbphfmaaGreatDoorMPGG
import Derived.Test.YtmiaplgfbphfmaaGreatDoorMPI
import Derived.Lib.AtoiAllCases
set_option linter.unusedSimpArgs false
set_option linter.unusedVariables false
namespace Go.Proofs.YtmiaplgfbphfmaaGreatDoor
open Go.RowKit
attribute [local irreducible] wpList

def bytesV (l : List UInt8) : List Value := l.map bV
theorem six_get (i : Nat) (h : i < (⟨#[48, 49, 50, 51, 52, 53, 54, 55, 56, 57, 97, 98, 99, 100, 101, 102]⟩ : ByteArray).size) : (⟨#[48, 49, 50, 51, 52, 53, 54, 55, 56, 57, 97, 98, 99, 100, 101, 102]⟩ : ByteArray)[i] = hexD i := by
  have hi : i < 16 := h
  have key : ∀ j : Fin 16, (⟨#[48, 49, 50, 51, 52, 53, 54, 55, 56, 57, 97, 98, 99, 100, 101, 102]⟩ : ByteArray)[j.val]'j.isLt = hexD j.val := by decide +kernel
  exact key ⟨i, hi⟩
theorem hexE_snoc : ∀ (l : List UInt8) (x : UInt8), hexE (l ++ [x]) = hexE l ++ [hexD (x.toNat / 16), hexD (x.toNat % 16)]
  | [], x => rfl
  | y :: l, x => by rw [List.cons_append, hexE, hexE_snoc l x, hexE]; rfl
theorem bytesV_append (a b : List UInt8) : bytesV (a ++ b) = bytesV a ++ bytesV b := List.map_append
theorem bytesV_length (a : List UInt8) : (bytesV a).length = a.length := List.length_map _
set_option maxRecDepth 100000 in
set_option maxHeartbeats 4000000 in
theorem noteDigits_any (w : World) (A : Option Addr) (n c : Nat) (l : List UInt8) (h : Sl 1 eByte w (LT w.heap.size) A n l) (hn : n ≤ 1000000) :
    Calls Tryz.prog 116 #[.slice A n c] w fun e w' => e = .returned (sV (hexE l)) ∧ Fr w w' := by
  have hl : l.length = n := h.1
  have H := Lib.hid h
  clear h
  go_enter Tryz.func116, Tryz.ntmps116
  obtain ⟨b, hb⟩ : ∃ b, b = w.heap.size := ⟨_, rfl⟩
  obtain ⟨W1, hW1⟩ : ∃ W1, W1 = w.alloc (.cells #[.pointer none, .slice none 0 0] 209) := ⟨_, rfl⟩
  have HB1 : Hid (Lib.IsBuilder 209 5 b b [] W1) := .inl ⟨Nat.le_refl _, .slice none 0 0, by rw [hW1]; exact heap_new hb, World.ownsRow_nil _ _ _ _, by simp [Value.ownBlock]⟩
  have HF1 : Hid (Fr w W1) := by rw [hW1]; exact frAlloc _ _
  have hb1 : b ≤ W1.heap.size := by rw [hb]; exact HF1.out.size
  have HWB := Lib.hid hb
  go_wp2_with fail
  rw [← hW1, ← hb]
  clear hb hW1
  go_loopw [8] (fun s8 wr => ∃ k : Nat, k ≤ n ∧ s8 = .int .i64 k ∧ Hid (Lib.IsBuilder 209 5 b b (bytesV (hexE (l.take k))) wr) ∧ Hid (Fr w wr) ∧ b ≤ wr.heap.size) (fun i _ => n - (intOf i).toNat)
  case atStart => exact ⟨0, Nat.zero_le _, rfl, HB1, HF1, hb1⟩
  case round =>
    obtain ⟨k, hk, rfl, HB, HF, hbr⟩ := hrel
    clear HB1 HF1 hb1
    by_cases hlt : k < n
    · obtain ⟨ad, rfl, hE⟩ := (H.out.go sByte HF.out).els (by omega)
      obtain ⟨x, hx, hcx⟩ := hE.byte hlt
      clear hE
      have f1 : x.toNat / 16 < 16 := by have := x.toNat_lt; omega
      have f2 : x.toNat % 16 < 16 := by omega
      have f3 : ((x.toNat : Int) / 16) < 16 := by omega
      have f4 : ((x.toNat : Int) % 16) < 16 := by omega
      have f5 : 0 ≤ ((x.toNat : Int) / 16) := by omega
      have f6 : 0 ≤ ((x.toNat : Int) % 16) := by omega
      have hlk : (hexE (l.take k)).length ≤ 2000000 := by rw [hexE_length, List.length_take]; omega
      have HLK := Lib.hid hlk
      clear hlk
      go_wp2_with fail
      refine (Tryz.Builder_WriteByte b b (bytesV (hexE (l.take k))) _ wr HB.out (by have := HLK.out; rw [bytesV_length]; omega) hbr).mono ?_
      rintro e w2 ⟨rfl, hB2, hf2⟩
      rw [six_get] at hB2
      have HF2 : Hid (Fr w w2) := Below.trans HF.out (by rw [← HWB.out]; exact hf2)
      have hb2 : b ≤ w2.heap.size := Nat.le_trans hbr hf2.size
      have HB2 := Lib.hid hB2
      clear hB2 hf2 HB HF hbr
      go_wp2_with fail
      refine (Tryz.Builder_WriteByte b b (bytesV (hexE (l.take k)) ++ [.int .u8 ((hexD (x.toNat / 16)).toNat : Int)]) _ w2 (.inr HB2.out) (by have := HLK.out; simp only [List.length_append, List.length_singleton, bytesV_length]; omega) hb2).mono ?_
      rintro e w3 ⟨rfl, hB3, hf3⟩
      rw [six_get] at hB3
      have HF3 : Hid (Fr w w3) := Below.trans HF2.out (by rw [← HWB.out]; exact hf3)
      have hb3 : b ≤ w3.heap.size := Nat.le_trans hb2 hf3.size
      have e3 : bytesV (hexE (l.take k)) ++ [.int .u8 ((hexD (x.toNat / 16)).toNat : Int)] ++ [.int .u8 ((hexD (x.toNat % 16)).toNat : Int)] = bytesV (hexE (l.take (k + 1))) := by
        rw [List.take_add_one, hx, Option.toList_some, hexE_snoc, bytesV_append, List.append_assoc]; rfl
      rw [e3] at hB3
      have HB3 := Lib.hid hB3
      clear hB3 hf3 HB2 HF2 hb2 e3
      go_wp2_with fail
      go_roundw
      case rel => exact ⟨k + 1, by omega, by go_num, .inr HB3.out, HF3, hb3⟩
      case measure => simp [intOf]; omega
    · have hk' : k = n := by omega
      have HB' : Hid (Lib.IsBuilder 209 5 b b (Lib.byteCells (hexE l)) wr) := by
        have := HB.out
        rw [hk', List.take_of_length_le (by omega)] at this
        exact this
      clear hk' HB
      go_wp2_with fail
      refine (Tryz.Builder_String_any b b (hexE l) wr HB'.out hbr).mono ?_
      rintro e w2 ⟨rfl, hf2⟩
      have HF2 : Hid (Fr w w2) := Below.trans HF.out (by rw [← HWB.out]; exact hf2)
      clear hf2
      go_wp2_with fail
      go_ret
      exact ⟨rfl, HF2.out⟩
end Go.Proofs.YtmiaplgfbphfmaaGreatDoor
namespace Go.Proofs.YtmiaplgfbphfmaaGreatDoor
open Go.RowKit
attribute [local irreducible] wpList

theorem hexR_odd : ∀ (l : List UInt8), l.length % 2 = 1 → hexR l = none
  | [], h => by simp at h
  | [_], _ => rfl
  | a :: b :: l, h => by
    rw [hexR, hexR_odd l (by simp only [List.length_cons] at h; omega)]
    split <;> rfl
theorem str_get (m : List UInt8) (i : Nat) (h : i < (⟨m.toArray⟩ : ByteArray).size) (x : UInt8) (hx : m[i]? = some x) : (⟨m.toArray⟩ : ByteArray)[i] = x := by
  obtain ⟨h1, h2⟩ := List.getElem?_eq_some_iff.1 hx
  exact h2
theorem u8_back (x : UInt8) : ((x.toNat : Int)).toNat.toUInt8 = x := by simp
theorem or_hex {a b : Int} (ha : 0 ≤ a ∧ a < 16) (hb : 0 ≤ b ∧ b < 16) : bits BinOp.or IntKind.i64 (a * 16) b % 256 = ((UInt8.ofNat (a.toNat * 16 + b.toNat)).toNat : Int) := by
  have key : ∀ (x y : Fin 16), bits BinOp.or IntKind.i64 ((x.val : Int) * 16) (y.val : Int) % 256 = ((UInt8.ofNat (x.val * 16 + y.val)).toNat : Int) := by decide +kernel
  have := key ⟨a.toNat, by omega⟩ ⟨b.toNat, by omega⟩
  simpa [Int.toNat_of_nonneg ha.1, Int.toNat_of_nonneg hb.1] using this
theorem idx_bd (x : UInt8) : -1 ≤ Lib.indexByte sixteen x ∧ Lib.indexByte sixteen x < 16 := by
  have h1 := Lib.indexByte_ge sixteen x
  refine ⟨h1, ?_⟩
  by_cases h : 0 ≤ Lib.indexByte sixteen x
  · have := (index_hexD h).1; omega
  · omega
/-- What note.bytes leaves: bytes of its own, or none. -/
def WbPost (w : World) (r : Option (List UInt8)) (e : Ending) (w' : World) : Prop := Fr w w' ∧ match r with
  | some b => ∃ A c, e = .returned (.tuple #[.slice A b.length c, .bool true]) ∧ (b.length ≤ c ∧ c ≤ maxLen) ∧ Sl 1 eByte w' (NW w.heap.size w'.heap.size) A b.length b
  | none => e = .returned (.tuple #[.slice none 0 0, .bool false])
theorem wb_none {w w' : World} {r : Option (List UInt8)} (hr : r = none) (hf : Fr w w') : WbPost w r (.returned (.tuple #[.slice none 0 0, .bool false])) w' := by subst hr; exact ⟨hf, rfl⟩
theorem wb_some {w w' : World} {r : Option (List UInt8)} {b : List UInt8} {A : Option Addr} {c : Nat} (hr : r = some b) (hf : Fr w w') (hc : b.length ≤ c ∧ c ≤ maxLen) (hs : Sl 1 eByte w' (NW w.heap.size w'.heap.size) A b.length b) : WbPost w r (.returned (.tuple #[.slice A b.length c, .bool true])) w' := by subst hr; exact ⟨hf, A, c, rfl, hc, hs⟩
theorem Own.nwByt {w : World} {base : Nat} {e : TypeId} {v : Value} {l : List UInt8} (h : Own 1 eByte w base e v l) : ∃ A c, v = .slice A l.length c ∧ (l.length ≤ c ∧ c ≤ maxLen) ∧ Sl 1 eByte w (NW base w.heap.size) A l.length l := by
  obtain ⟨A, c, rfl, hc, hs⟩ := h.slC sByte (by decide)
  refine ⟨A, c, rfl, hc, hs.1, fun hn => ?_⟩
  obtain ⟨ad, rfl, hb, hx⟩ := hs.2 hn
  refine ⟨ad, rfl, ⟨?_, hb⟩, hx⟩
  obtain ⟨cs, ho, _⟩ := h
  exact (ho.lt ad.block rfl).1

set_option maxRecDepth 100000 in
set_option maxHeartbeats 8000000 in
theorem noteBytes_good (w : World) (m : List UInt8) (hm : m.length ≤ 1000000) (he : m.length % 2 = 0) :
    Calls Tryz.prog 152 #[sV (45 :: m)] w (WbPost w (hexR m)) := by
  have hsz := sV_size m
  have hpre : Lib.hasPrefix (45 :: m) [45] = true := by simp [Lib.hasPrefix]
  have htrim : Lib.trimPrefix (45 :: m) [45] = m := by simp [Lib.trimPrefix, Lib.hasPrefix]
  have HR0 : Hid (hexR m = (match hexR (m.drop 0) with | none => none | some r => some ([] ++ r))) := by
    rw [Hid, List.drop_zero]; cases hexR m <;> rfl
  go_enter Tryz.func152, Tryz.ntmps152
  go_wp2_with fail
  refine (Tryz.strings_CutPrefix _ _ _).mono ?_
  rintro e w1 ⟨rfl, hw1⟩
  rw [hw1, show Lib.trimPrefix (⟨(45 :: m).toArray⟩ : ByteArray).data.toList (⟨#[45]⟩ : ByteArray).data.toList = m from htrim, show Lib.hasPrefix (⟨(45 :: m).toArray⟩ : ByteArray).data.toList (⟨#[45]⟩ : ByteArray).data.toList = true from hpre]
  clear hw1 w1 hpre htrim
  have t1 : (m.length : Int) % 2 = 0 := by omega
  have HZ := Lib.hid hsz
  go_wp2_with fail
  clear t1
  go_loopw [5, 6] (fun s5 s6 wr => ∃ (k : Nat) (bs : List UInt8), 2 * k ≤ m.length ∧ bs.length = k ∧ s6 = .int .i64 (2 * (k : Int)) ∧ Hid (Own 1 eByte wr w.heap.size 5 s5 bs) ∧ Hid (Fr w wr) ∧ Hid (hexR m = (match hexR (m.drop (2 * k)) with | none => none | some r => some (bs ++ r)))) (fun _ i _ => m.length - (intOf i).toNat)
  case atStart => exact ⟨0, [], Nat.zero_le _, rfl, rfl, Own.nil, Below.refl _ _, HR0⟩
  case round =>
    obtain ⟨k, bs, hk, hbl, rfl, HO, HF, HR⟩ := hrel
    clear HR0
    by_cases hlt : 2 * k < m.length
    · have hx : m[2 * k]? = some m[2 * k] := List.getElem?_eq_getElem (by omega)
      have hy : m[2 * k + 1]? = some m[2 * k + 1] := List.getElem?_eq_getElem (by omega)
      have hd : m.drop (2 * k) = m[2 * k] :: m[2 * k + 1] :: m.drop (2 * (k + 1)) := by
        rw [List.drop_eq_getElem_cons (by omega), List.drop_eq_getElem_cons (by omega)]; rfl
      obtain ⟨x, hxe⟩ : ∃ x, x = m[2 * k] := ⟨_, rfl⟩
      obtain ⟨y, hye⟩ : ∃ y, y = m[2 * k + 1] := ⟨_, rfl⟩
      rw [← hxe] at hx hd
      rw [← hye] at hy hd
      have HX := Lib.hid hx
      have HY := Lib.hid hy
      have HD := Lib.hid hd
      have s1 : (⟨m.toArray⟩ : ByteArray).size = m.length := HZ.out
      have i1 : 2 * (k : Int) < (m.length : Int) := by omega
      have i2 : 2 * (k : Int) + 1 < (m.length : Int) := by omega
      have i0 : 0 ≤ 2 * (k : Int) := by omega
      have i4 : 0 ≤ 2 * (k : Int) + 1 := by omega
      have i3 : IntKind.i64.wrap (2 * (k : Int) + 1) = 2 * (k : Int) + 1 := by rw [IntKind.wrap_i64]; omega
      have h1 : (2 * (k : Int)).toNat < (⟨m.toArray⟩ : ByteArray).size := by rw [s1]; omega
      have h2 : (2 * (k : Int) + 1).toNat < (⟨m.toArray⟩ : ByteArray).size := by rw [s1]; omega
      have A1 : (⟨m.toArray⟩ : ByteArray)[(2 * (k : Int)).toNat] = x := str_get m _ h1 x (by rw [show (2 * (k : Int)).toNat = 2 * k by omega]; exact hx)
      have A2 : (⟨m.toArray⟩ : ByteArray)[(2 * (k : Int) + 1).toNat] = y := str_get m _ h2 y (by rw [show (2 * (k : Int) + 1).toNat = 2 * k + 1 by omega]; exact hy)
      obtain ⟨ix, hix⟩ : ∃ ix, ix = Lib.indexByte sixteen x := ⟨_, rfl⟩
      obtain ⟨iy, hiy⟩ : ∃ iy, iy = Lib.indexByte sixteen y := ⟨_, rfl⟩
      have C1 : Hid (∀ W, Calls Tryz.prog 174 #[.string ⟨#[48, 49, 50, 51, 52, 53, 54, 55, 56, 57, 97, 98, 99, 100, 101, 102]⟩, .int .u8 ((⟨m.toArray⟩ : ByteArray)[(2 * (k : Int)).toNat]).toNat] W fun e w' => e = .returned (.int .i64 ix) ∧ w' = W) := fun W => by
        have := Tryz.strings_IndexByte ⟨#[48, 49, 50, 51, 52, 53, 54, 55, 56, 57, 97, 98, 99, 100, 101, 102]⟩ ((⟨m.toArray⟩ : ByteArray)[(2 * (k : Int)).toNat]).toNat W
        rw [A1, u8_back] at this
        rw [A1, hix]
        exact this
      have C2 : Hid (∀ W, Calls Tryz.prog 174 #[.string ⟨#[48, 49, 50, 51, 52, 53, 54, 55, 56, 57, 97, 98, 99, 100, 101, 102]⟩, .int .u8 ((⟨m.toArray⟩ : ByteArray)[(2 * (k : Int) + 1).toNat]).toNat] W fun e w' => e = .returned (.int .i64 iy) ∧ w' = W) := fun W => by
        have := Tryz.strings_IndexByte ⟨#[48, 49, 50, 51, 52, 53, 54, 55, 56, 57, 97, 98, 99, 100, 101, 102]⟩ ((⟨m.toArray⟩ : ByteArray)[(2 * (k : Int) + 1).toNat]).toNat W
        rw [A2, u8_back] at this
        rw [A2, hiy]
        exact this
      have hbx := idx_bd x
      have hby := idx_bd y
      rw [← hix] at hbx
      rw [← hiy] at hby
      have hstep : hexR m = if ix < 0 ∨ iy < 0 then none else (match hexR (m.drop (2 * (k + 1))) with | none => none | some r => some (bs ++ (UInt8.ofNat (ix.toNat * 16 + iy.toNat) :: r))) := by
        rw [HR.out, hd, hexR, hix, hiy]
        by_cases hc : Lib.indexByte sixteen x < 0 ∨ Lib.indexByte sixteen y < 0
        · rw [if_pos hc, if_pos hc]
        · rw [if_neg hc, if_neg hc]
          cases hexR (m.drop (2 * (k + 1))) <;> rfl
      have HST := Lib.hid hstep
      clear hx hy hd hxe hye A1 A2 hix hiy HX HY HD HR hstep
      go_wp2_with fail
      refine held_begin (n := 11) (bs := #[false, false, false, false, false, false, false, false, false, false, false]) rfl rfl (by kernel_rfl) (S := fun w' => w' = wr.drew) rfl (fun hHeld => ?_)
      ((first | refine held_sk (i := 0) ?_ | refine held_tk (i := 0) ?_); (first | refine held_sk (i := 1) ?_ | refine held_tk (i := 1) ?_); (first | refine held_sk (i := 2) ?_ | refine held_tk (i := 2) ?_); (first | refine held_sk (i := 4) ?_ | refine held_tk (i := 4) ?_); (first | refine held_sk (i := 5) ?_ | refine held_tk (i := 5) ?_); (first | refine held_sk (i := 6) ?_ | refine held_tk (i := 6) ?_); (first | refine held_sk (i := 7) ?_ | refine held_tk (i := 7) ?_))
      refine held_one (i := 3) rfl (by kernel_rfl) (fun K hK => ?_)
      go_simp
      go_at_call 174
      (with_reducible refine (C1.out _).mono ?_)
      rintro e w6 ⟨rfl, rfl⟩
      (refine held_back hK (a' := ?hA1) (l' := ?hL1) ?ha1 ?hl1 (rfl) (fun hHeld => ?hh1); (case ha1 => first | with_reducible rfl | (simp only [Act.put, hq1, hq2, hq3, Option.isNone, Bool.not_true, Bool.not_false]; (try with_reducible rfl))); (case hl1 => (simp only [Act.put, hq1, hq2, hq3, Option.isNone, Bool.not_true, Bool.not_false]; (try with_reducible rfl))); clear hK K)
      refine held_one (i := 8) rfl (by kernel_rfl) (fun K hK => ?_)
      go_simp
      go_at_call 174
      (with_reducible refine (C2.out _).mono ?_)
      rintro e w6 ⟨rfl, rfl⟩
      (refine held_back hK (a' := ?hA2) (l' := ?hL2) ?ha2 ?hl2 (rfl) (fun hHeld => ?hh2); (case ha2 => first | with_reducible rfl | (simp only [Act.put, hq1, hq2, hq3, Option.isNone, Bool.not_true, Bool.not_false]; (try with_reducible rfl))); (case hl2 => (simp only [Act.put, hq1, hq2, hq3, Option.isNone, Bool.not_true, Bool.not_false]; (try with_reducible rfl))); clear hK K)
      ((first | refine held_sk (i := 9) ?_ | refine held_tk (i := 9) ?_); (first | refine held_sk (i := 10) ?_ | refine held_tk (i := 10) ?_))
      refine wpAnyH_done (by kernel_rfl) ?_ _
      clear C1 C2 hHeld
      by_cases hbad : ix < 0 ∨ iy < 0
      · have hnone : Hid (hexR m = none) := HST.out.trans (if_pos hbad)
        by_cases hx0 : ix < 0
        · clear hbad
          go_wp2_with fail
          go_ret2
          exact wb_none hnone.out (HF.out.trans (by (repeat' (first | exact Below.refl _ _ | refine below_drewN ?_ _ | refine Below.drew ?_ | refine frA ?_ _))))
        · have hy0 : iy < 0 := by omega
          clear hbad
          go_wp2_with fail
          go_ret2
          exact wb_none hnone.out (HF.out.trans (by (repeat' (first | exact Below.refl _ _ | refine below_drewN ?_ _ | refine Below.drew ?_ | refine frA ?_ _))))
      · have hgood : Hid (hexR m = _) := HST.out.trans (if_neg hbad)
        have hx0 : ¬ ix < 0 := by omega
        have hy0 : ¬ iy < 0 := by omega
        clear HST hbad
        obtain ⟨bt, hbt⟩ : ∃ bt, bt = UInt8.ofNat (ix.toNat * 16 + iy.toNat) := ⟨_, rfl⟩
        have hor := or_hex (a := ix) (b := iy) ⟨by omega, by omega⟩ ⟨by omega, by omega⟩
        have hyy : Hid (eByte wr (fun b => b < wr.heap.size ∧ u5.ownBlock ≠ some b) (fun j => [Value.int .u8 (bits BinOp.or IntKind.i64 (ix * 16) iy % 256)][j]?) bt) := by
          show some _ = some _
          rw [hor, hbt]
        have hLm : bs.length + 1 ≤ maxLen := by unfold maxLen; omega
        have hLs : (bs.length + 1) * 1 ≤ lim := by unfold lim; omega
        have hbb := HF.out.size
        rw [← hbt] at hgood
        clear hor hbt
        go_wp2_with (at_builtin; refine wpList_app1 rfl _ _ 35 rfl w.heap.size 5 (bV 0) 1 Tryz.underlying35 infoByte rfl (by decide) sByte wr (Below.drew (frAlloc _ _)) _ bs rfl HO.out wr.heap.size [.int .u8 (bits BinOp.or IntKind.i64 (ix * 16) iy % 256)] 5 (0, 0) rfl (heap_d (heap_new rfl)) rfl (by simp [Value.oneCell']) _ hyy.out hLm hLs w.heap.size w HF.out (Nat.le_refl _) hbb ?_)
        intro v' w7 HO7 HF7
        go_wp2_with fail
        go_roundw
        case rel => exact ⟨k + 1, bs ++ [bt], by omega, by simp [hbl], by go_num, HO7, HF7, hgood.out.trans (by cases hexR (m.drop (2 * (k + 1))) <;> simp)⟩
        case measure => simp [intOf]; omega
    · have hk' : 2 * k = m.length := by omega
      have hfin : Hid (hexR m = some bs) := HR.out.trans (by rw [List.drop_eq_nil_of_le (by omega)]; simp [hexR])
      obtain ⟨A5, c5, rfl, hc5, hs5⟩ := HO.out.nwByt
      have HC5 := Lib.hid hc5
      have HS5 := Lib.hid hs5
      clear HR HO hc5 hs5 hk'
      go_wp2_with fail
      go_ret2
      exact wb_some hfin.out HF.out HC5.out HS5.out
set_option maxRecDepth 100000 in
set_option maxHeartbeats 4000000 in
theorem noteBytes_odd (w : World) (m : List UInt8) (hm : m.length ≤ 1000000) (he : m.length % 2 = 1) :
    Calls Tryz.prog 152 #[sV (45 :: m)] w (WbPost w (hexR m)) := by
  have hsz := sV_size m
  have hpre : Lib.hasPrefix (45 :: m) [45] = true := by simp [Lib.hasPrefix]
  have htrim : Lib.trimPrefix (45 :: m) [45] = m := by simp [Lib.trimPrefix, Lib.hasPrefix]
  have hn : Hid (hexR m = none) := hexR_odd m he
  go_enter Tryz.func152, Tryz.ntmps152
  go_wp2_with fail
  refine (Tryz.strings_CutPrefix _ _ _).mono ?_
  rintro e w1 ⟨rfl, hw1⟩
  rw [hw1, show Lib.trimPrefix (⟨(45 :: m).toArray⟩ : ByteArray).data.toList (⟨#[45]⟩ : ByteArray).data.toList = m from htrim, show Lib.hasPrefix (⟨(45 :: m).toArray⟩ : ByteArray).data.toList (⟨#[45]⟩ : ByteArray).data.toList = true from hpre]
  clear hw1 w1 hpre htrim
  have t1 : (m.length : Int) % 2 = 1 := by omega
  go_wp2_with fail
  go_ret2
  exact wb_none hn.out (Below.refl _ _)
set_option maxRecDepth 100000 in
set_option maxHeartbeats 4000000 in
theorem noteBytes_bad (w : World) (l : List UInt8) (h0 : Lib.hasPrefix l [45] = false) (hn : Hid (wordR l = none)) :
    Calls Tryz.prog 152 #[sV l] w (WbPost w (wordR l)) := by
  go_enter Tryz.func152, Tryz.ntmps152
  go_wp2_with fail
  refine (Tryz.strings_CutPrefix _ _ _).mono ?_
  rintro e w1 ⟨rfl, hw1⟩
  rw [hw1, show Lib.hasPrefix (⟨l.toArray⟩ : ByteArray).data.toList (⟨#[45]⟩ : ByteArray).data.toList = false from h0]
  clear hw1 w1 h0
  go_wp2_with fail
  go_ret2
  exact wb_none hn.out (Below.refl _ _)
/-- note.bytes. -/
theorem noteBytes_any (w : World) (l : List UInt8) (hl : l.length ≤ 1000000) : Calls Tryz.prog 152 #[sV l] w (WbPost w (wordR l)) := by
  match l, hl with
  | [], _ => exact noteBytes_bad w [] rfl rfl
  | x :: m, hl =>
    by_cases hx : x = 45
    · subst hx
      have e : wordR (45 :: m) = hexR m := by simp [wordR]
      rw [e]
      simp only [List.length_cons] at hl
      rcases Nat.mod_two_eq_zero_or_one m.length with h | h
      · exact noteBytes_good w m (by omega) h
      · exact noteBytes_odd w m (by omega) h
    · exact noteBytes_bad w _ (by simp [Lib.hasPrefix, List.isPrefixOf, Ne.symm hx]) (by simp [Hid, wordR, hx])
theorem wb_out {w w' : World} {r : Option (List UInt8)} {e : Ending} (h : WbPost w r e w') : ∃ A n c, e = .returned (.tuple #[.slice A n c, .bool r.isSome]) ∧ Fr w w' ∧ ∀ b, r = some b → n = b.length ∧ (n ≤ c ∧ c ≤ maxLen) ∧ Sl 1 eByte w' (NW w.heap.size w'.heap.size) A n b := by
  cases r with
  | none => exact ⟨none, 0, 0, h.2, h.1, fun b e => by cases e⟩
  | some b =>
    obtain ⟨hf, A, c, he, hc, hs⟩ := h
    exact ⟨A, b.length, c, he, hf, fun b' e => by injection e with e; subst e; exact ⟨rfl, hc, hs⟩⟩
theorem wordR_len {l b : List UInt8} (h : wordR l = some b) : b.length ≤ l.length := by
  have := wordR_some h
  rw [← this, List.length_cons, hexE_length]; omega
end Go.Proofs.YtmiaplgfbphfmaaGreatDoor
namespace Go.Proofs.YtmiaplgfbphfmaaGreatDoor

theorem dec_len (u : Nat) : (Lib.decDigits u).length ≤ u + 1 := by
  induction u using Nat.strongRecOn with
  | _ u ih =>
    rw [Lib.decDigits]
    split
    · simp
    · have := ih (u / 10) (by omega)
      simp only [List.length_append, List.length_singleton]; omega
theorem itoa_len {n : Int} (h : 0 ≤ n ∧ n ≤ 1000000) : (Lib.itoa n).length ≤ 1000001 := by
  unfold Lib.itoa
  rw [if_neg (by omega)]
  have := dec_len n.toNat
  omega
theorem recCheck_uses {r : Rc} (e : recCheck r = 0) : (r.kind ≠ 2 → r.s.id = 0 ∧ r.s.data.length = 0) ∧ (r.kind ≠ 1 → r.kind ≠ 3 → r.cargo.length = 0) := by
  unfold recCheck at e
  split at e
  · cases e
  split at e
  · cases e
  rename_i a1 a2
  refine ⟨fun h => ?_, fun h h' => ?_⟩
  · have hs : usS r.kind = false := by simp [usS, h]
    simp only [hs, true_and, not_or, ne_eq, Decidable.not_not] at a2
    have := a2.2.2.2.2.1
    omega
  · have hs : usC r.kind = false := by simp [usC, h, h']
    simp only [hs, true_and, not_or, ne_eq, Decidable.not_not] at a2
    have := a2.2.2.2.2.2
    omega
theorem recCheck_len {r : Rc} (e : recCheck r = 0) : r.s.data.length ≤ 16 ∧ r.cargo.length ≤ 360 := by
  have h := recCheck_ok e
  obtain ⟨h1, h2⟩ := recCheck_uses e
  refine ⟨?_, ?_⟩
  · by_cases hk : r.kind = 2
    · obtain ⟨c1, c2, c3⟩ := codeCheck_ok (h.sym hk)
      have := (cutCheck_ok c1).2.1
      omega
    · rw [(h1 hk).2]; omega
  · by_cases hk : r.kind = 1 ∨ r.kind = 3
    · have hc := h.cargo hk
      have hh := hdCheck_bd (h.head (by omega))
      have := (cutCheck_ok hh.2.2.2.2.2).1
      omega
    · rw [h2 (by omega) (by omega)]; omega
theorem recInts_bd {r : Rc} (e : recCheck r = 0) : ∀ n ∈ recInts r, 0 ≤ n ∧ n ≤ 1000000 := by
  have h := recCheck_ok e
  obtain ⟨h1, h2⟩ := recCheck_uses e
  have hk := h.kind
  have hp := h.place
  have ht := h.try_
  have hn := h.n
  have hh : (0 ≤ r.h.frm ∧ r.h.frm ≤ 1000000) ∧ (0 ≤ r.h.seq ∧ r.h.seq ≤ 1000000) ∧ (0 ≤ r.h.to ∧ r.h.to ≤ 1000000) ∧ (0 ≤ r.h.till ∧ r.h.till ≤ 1000000) ∧ (0 ≤ r.h.bytes ∧ r.h.bytes ≤ 1000000) ∧ (0 ≤ r.h.block ∧ r.h.block ≤ 1000000) := by
    by_cases h8 : r.kind = 8
    · rw [h.tick h8]; decide
    · obtain ⟨a1, a2, a3, a4, a5, a6⟩ := hdCheck_bd (h.head h8)
      have := cutCheck_ok a6
      omega
  have hs : 0 ≤ r.s.id ∧ r.s.id ≤ 1000000 := by
    by_cases h2' : r.kind = 2
    · have := (codeCheck_ok (h.sym h2')).2.1; omega
    · rw [(h1 h2').1]; decide
  intro n hn'
  simp only [recInts, List.mem_cons, List.not_mem_nil, or_false] at hn'
  rcases hn' with rfl | rfl | rfl | rfl | rfl | rfl | rfl | rfl | rfl | rfl | rfl <;> omega
theorem join_len (c : UInt8) (m : Nat) : ∀ (ws : List (List UInt8)), (∀ w ∈ ws, w.length ≤ m) → (Lib.join ws [c]).length ≤ ws.length * (m + 1)
  | [], _ => by simp [Lib.join_nil]
  | [w], h => by rw [Lib.join_one]; have := h w (by simp); simp; omega
  | w :: v :: ws, h => by
    have ih := join_len c m (v :: ws) fun x hx => h x (List.mem_cons_of_mem _ hx)
    have := h w (by simp)
    rw [join_cons2]
    simp only [List.length_append, List.length_cons, List.length_nil] at ih ⊢
    have e : (ws.length + 1 + 1) * (m + 1) = (ws.length + 1) * (m + 1) + (m + 1) := Nat.succ_mul ..
    rw [e]
    generalize (ws.length + 1) * (m + 1) = T at ih ⊢
    omega
theorem recText_len {r : Rc} (e : recCheck r = 0) : (recText r).length ≤ 20000000 := by
  obtain ⟨h1, h2⟩ := recCheck_len e
  have := join_len 32 1000001 (recWords r) fun w hw => by
    unfold recWords at hw
    rcases List.mem_append.1 hw with hw | hw
    · obtain ⟨n, hn, rfl⟩ := List.mem_map.1 hw
      exact itoa_len (recInts_bd e n hn)
    · simp only [List.mem_cons, List.not_mem_nil, or_false] at hw
      rcases hw with rfl | rfl <;> simp only [List.length_cons, hexE_length] <;> omega
  rw [recWords_length] at this
  unfold recText
  omega
end Go.Proofs.YtmiaplgfbphfmaaGreatDoor
namespace Go.Proofs.YtmiaplgfbphfmaaGreatDoor
open Go.RowKit
attribute [local irreducible] wpList

/-- What note.Parse leaves. -/
def RPost (w : World) (X : Rc × Int) (e : Ending) (w' : World) : Prop := ∃ B n c B2 n2 c2, e = .returned (.tuple #[.agg #[.int .i64 X.1.kind, .int .i64 X.1.place, .int .i64 X.1.n, .int .i64 X.1.try_, .int .i64 X.1.h.frm, .int .i64 X.1.h.seq, .int .i64 X.1.h.to, .int .i64 X.1.h.till, .int .i64 X.1.h.bytes, .int .i64 X.1.h.block, .int .i64 X.1.s.id, .slice B n c, .slice B2 n2 c2], .int .i64 X.2]) ∧ X.1.wf ∧ Byt w' (NW w.heap.size w'.heap.size) B n c X.1.s.data ∧ Byt w' (NW w.heap.size w'.heap.size) B2 n2 c2 X.1.cargo ∧ Fr w w'
theorem byt_nil {w : World} {S : Nat → Prop} : Byt w S none 0 0 [] := ⟨⟨by unfold lim; omega, by omega, by unfold maxLen; omega⟩, Sl.nil⟩
theorem rpost_err {w w' : World} {X : Rc × Int} {c : Int} (h : X = (Rc.zero, c)) (hf : Fr w w') : RPost w X (.returned (.tuple #[.agg #[.int .i64 0, .int .i64 0, .int .i64 0, .int .i64 0, .int .i64 0, .int .i64 0, .int .i64 0, .int .i64 0, .int .i64 0, .int .i64 0, .int .i64 0, .slice none 0 0, .slice none 0 0], .int .i64 c])) w' := by
  subst h
  exact ⟨none, 0, 0, none, 0, 0, rfl, (by unfold Rc.wf Hd.wf; decide : Rc.zero.wf), byt_nil, byt_nil, hf⟩
theorem piece_len (c : UInt8) : ∀ (l : List UInt8), ∀ p ∈ pieces c l, p.length ≤ l.length
  | [], p, h => by simp [pieces] at h; subst h; simp
  | x :: l, p, h => by
    have ih := piece_len c l
    unfold pieces at h
    split at h
    · rcases List.mem_cons.1 h with rfl | h
      · simp
      · have := ih p h; simp only [List.length_cons]; omega
    · split at h
      · rename_i q qs hq
        rcases List.mem_cons.1 h with rfl | h
        · have := ih q (by rw [hq]; simp); simp only [List.length_cons]; omega
        · have := ih p (by rw [hq]; simp [h]); simp only [List.length_cons]; omega
      · rename_i hq
        exact absurd hq (pieces_ne c l)
set_option maxRecDepth 100000 in
set_option maxHeartbeats 8000000 in
theorem noteParse_any (w : World) (v : Vars w) (l : List UInt8) (hl : l.length ≤ lim) :
    Calls Tryz.prog 120 #[sV l] w (RPost w (parseF l)) := by
  have hsz := sV_size l
  unfold lim at hl
  obtain ⟨q, hq⟩ : ∃ q, q = w.heap.size := ⟨_, rfl⟩
  obtain ⟨W1, hW1⟩ : ∃ W1, W1 = w.alloc (.cells #[.int .i64 0, .int .i64 0, .int .i64 0, .int .i64 0, .int .i64 0, .int .i64 0, .int .i64 0, .int .i64 0, .int .i64 0, .int .i64 0, .int .i64 0, .slice none 0 0, .slice none 0 0] 40) := ⟨_, rfl⟩
  have HQ1 : Hid (W1.heap[q]? = some (.cells #[.int .i64 0, .int .i64 0, .int .i64 0, .int .i64 0, .int .i64 0, .int .i64 0, .int .i64 0, .int .i64 0, .int .i64 0, .int .i64 0, .int .i64 0, .slice none 0 0, .slice none 0 0] 40 (0, 0))) := by rw [hW1]; exact heap_new hq
  have HF1 : Hid (Fr w W1) := by rw [hW1]; exact frAlloc _ _
  have HQW := Lib.hid hq
  have HV := Lib.hid v
  clear v
  obtain ⟨X, hX⟩ : ∃ X, X = parseF l := ⟨_, rfl⟩
  rw [← hX]
  have HX := Lib.hid hX
  clear hX
  by_cases h1 : 60000 < l.length
  case pos =>
    have hx : Hid (X = (Rc.zero, 2)) := HX.out.trans (by unfold parseF; rw [if_pos h1])
    have t1 : decide ((60000 : Int) < (l.length : Int)) = true := by simp; omega
    have hf : Hid (Fr w (w.alloc (.cells #[.int .i64 0, .int .i64 0, .int .i64 0, .int .i64 0, .int .i64 0, .int .i64 0, .int .i64 0, .int .i64 0, .int .i64 0, .int .i64 0, .int .i64 0, .slice none 0 0, .slice none 0 0] 40))) := frAlloc _ _
    clear hl h1 hq hW1
    go_enter Tryz.func120, Tryz.ntmps120
    go_wp2_with fail
    refine bodyPost_ret (v := .tuple #[.agg #[.int .i64 0, .int .i64 0, .int .i64 0, .int .i64 0, .int .i64 0, .int .i64 0, .int .i64 0, .int .i64 0, .int .i64 0, .int .i64 0, .int .i64 0, .slice none 0 0, .slice none 0 0], .int .i64 2]) ?_ rfl (rpost_err hx.out hf.out)
    simp [results, Tryz.results120, go_sem]
  case neg =>
  have t1 : decide ((60000 : Int) < (l.length : Int)) = false := by simp; omega
  obtain ⟨PS, hPS⟩ : ∃ PS, PS = pieces 32 l := ⟨_, rfl⟩
  obtain ⟨ad, had⟩ : ∃ ad : Addr, ad = ⟨W1.heap.size, 0, none⟩ := ⟨_, rfl⟩
  obtain ⟨W2, hW2⟩ : ∃ W2, W2 = W1.alloc (.cells (PS.map sV).toArray 9) := ⟨_, rfl⟩
  have SP : Hid (Calls Tryz.prog 150 #[sV l, sV [32]] W1 fun e w' => e = .returned (.slice (some ad) PS.length PS.length) ∧ w' = W2) := by
    rw [hPS, had, hW2, hPS]; exact split_any W1 (HV.out.go HF1.out) 32 l (by omega)
  have hx0 : Hid (X = recRead l) := HX.out.trans (by unfold parseF; rw [if_neg h1])
  have HSL : Hid (Els 1 eStr W2 (LT W2.heap.size) ad PS.length PS) := by
    have hb : W2.heap[W1.heap.size]? = some (.cells (PS.map sV).toArray 9 (0, 0)) := by rw [hW2]; exact heap_new rfl
    have := Sl.litStrs (S := LT W2.heap.size) (n := PS.length) (xs := PS) hb (Array.getElem?_eq_some_iff.1 hb).1 rfl rfl
    rw [had]
    by_cases h0 : 0 < PS.length
    · obtain ⟨ad', e, h⟩ := this.els h0
      injection e with e
      rw [e]; exact h
    · exact absurd (by rw [hPS]; exact List.length_pos_iff.2 (pieces_ne 32 l)) h0
  have hpl : ∀ p ∈ PS, p.length ≤ 60000 := fun p hp => Nat.le_trans (piece_len 32 l p (by rw [← hPS]; exact hp)) (by omega)
  have HPL := Lib.hid hpl
  have HF2 : Hid (Fr w W2) := HF1.out.trans (by rw [hW2]; exact frAlloc _ _)
  have HQ2 : Hid (W2.heap[q]? = some (.cells #[.int .i64 0, .int .i64 0, .int .i64 0, .int .i64 0, .int .i64 0, .int .i64 0, .int .i64 0, .int .i64 0, .int .i64 0, .int .i64 0, .int .i64 0, .slice none 0 0, .slice none 0 0] 40 (0, 0))) := blk_go HQ1.out (by rw [hW2]; exact frAlloc _ _)
  have hq2 : q < W2.heap.size := by rw [hW2, hq]; have := HF1.out.size; simp; omega
  have HPS := Lib.hid hPS
  clear hpl hPS had hW2 hl h1 HX
  go_enter Tryz.func120, Tryz.ntmps120
  go_wp2_with fail
  rw [← hW1, ← hq]
  clear hW1 hq
  (with_reducible refine (SP.out).mono ?_)
  rintro e w2 ⟨rfl, hw2⟩
  rw [hw2]
  clear hw2 SP HQ1 HF1 t1 w2
  by_cases h13 : PS.length = 13
  case neg =>
    have t2 : ((PS.length : Int) != 13) = true := by simp only [bne_iff_ne]; omega
    have hx : Hid (X = (Rc.zero, 1)) := hx0.out.trans (by unfold recRead; rw [← HPS.out, if_pos h13])
    have hqx := HQ2.out
    (obtain ⟨bq0, bq1, bq2, bq3, bq4, bq5, bq6, bq7, bq8, bq9, bq10, bq11, bq12⟩ := box13_ hqx)
    have y0 := blk_free (i := 0) hqx
    have y1 := blk_free (i := 1) hqx
    have y2 := blk_free (i := 2) hqx
    have y3 := blk_free (i := 3) hqx
    have y4 := blk_free (i := 4) hqx
    have y5 := blk_free (i := 5) hqx
    have y6 := blk_free (i := 6) hqx
    have y7 := blk_free (i := 7) hqx
    have y8 := blk_free (i := 8) hqx
    have y9 := blk_free (i := 9) hqx
    have y10 := blk_free (i := 10) hqx
    have y11 := blk_free (i := 11) hqx
    have y12 := blk_free (i := 12) hqx
    have lq := (Array.getElem?_eq_some_iff.1 hqx).1
    clear h13 hqx
    go_wp2_with fail
    refine bodyPost_ret (v := .tuple #[.agg #[.int .i64 0, .int .i64 0, .int .i64 0, .int .i64 0, .int .i64 0, .int .i64 0, .int .i64 0, .int .i64 0, .int .i64 0, .int .i64 0, .int .i64 0, .slice none 0 0, .slice none 0 0], .int .i64 1]) ?_ rfl (rpost_err hx.out (bel13_ HF2.out (by have := HQW.out; omega)))
    simp [results, Tryz.results120, go_sem, bq0, bq1, bq2, bq3, bq4, bq5, bq6, bq7, bq8, bq9, bq10, bq11, bq12, lq]
  case pos =>
  rw [h13]
  have HSL2 : Hid (Sl 1 eStr W2 (LT W2.heap.size) (some ad) 13 PS) := by
    have := HSL.out.sl
    rw [h13] at this
    exact this
  have H13 := Lib.hid h13
  have HX0 := Lib.hid hx0
  clear h13 HSL hx0
  go_upto_region 7 with fail
  obtain ⟨W3, hW3⟩ : ∃ W3, W3 = W2.alloc (.cells #[.int .i64 0, .int .i64 0, .int .i64 0, .int .i64 0, .int .i64 0, .int .i64 0, .int .i64 0, .int .i64 0, .int .i64 0, .int .i64 0, .int .i64 0] 177) := ⟨_, rfl⟩
  obtain ⟨nb, hnb⟩ : ∃ nb, nb = W2.heap.size := ⟨_, rfl⟩
  have HN3 : Hid (W3.heap[nb]? = some (.cells (ca (Value.int .i64) ([] ++ List.replicate (11 - 0) 0)) 177 (0, 0))) := by rw [hW3]; exact heap_new hnb
  have hf3 : Fr W2 W3 := by rw [hW3]; exact frAlloc _ _
  have HF3 : Hid (Fr w W3) := HF2.out.trans hf3
  have HQ3 := Lib.hid (blk_go HQ2.out hf3)
  have HSL3 : Hid (Sl 1 eStr W3 (LT nb) (some ad) 13 PS) := by rw [hnb]; exact HSL2.out.keep sStr fun x hx => hf3.cell hx
  have hnw : w.heap.size < nb := by rw [hnb]; have := HQW.out; omega
  have hqn : q < nb := by rw [hnb]; exact hq2
  have hn3 : nb < W3.heap.size := by rw [hW3, hnb]; simp
  rw [← hW3, ← hnb]
  clear hW3 hnb hf3 HF2 HQ2 HSL2 hq2
  go_wp2_with fail
  go_loopw [25] (fun s25 wr => ∃ (k : Nat) (vs : List Int), k ≤ 11 ∧ s25 = .int .i64 k ∧ Hid (intsR (PS.take k) = some vs) ∧ Hid (vs.length = k) ∧ Hid (∀ x ∈ vs, wfI x) ∧ Hid (wr.heap[nb]? = some (.cells (ca (Value.int .i64) (vs ++ List.replicate (11 - k) 0)) 177 (0, 0))) ∧ Hid (Chg (fun b => b = nb) W3 wr)) (fun i _ => 11 - (intOf i).toNat)
  case atStart => exact ⟨0, [], Nat.zero_le _, rfl, rfl, rfl, fun x hx => by simp at hx, HN3, Chg.refl _ _⟩
  case round =>
    obtain ⟨k, vs, hk, rfl, HI, HVL, HVW, HN, HC⟩ := hrel
    have HFr : Hid (Fr w wr) := HC.out.fr HF3.out fun x e => by have e : x = nb := e; omega
    have HQr := Lib.hid (HC.out.blk HQ3.out (fun e => by have e : q = nb := e; omega))
    clear HN3
    by_cases hlt : k < 11
    · have hE : Els 1 eStr wr (LT nb) ad 13 PS := by
        obtain ⟨ad', e, h⟩ := (HSL3.out.chg sStr HC.out fun b hb => ⟨Nat.lt_trans hb hn3, fun e => by have e : b = nb := e; have hb : b < nb := hb; omega⟩).els (by omega)
        injection e with e
        subst e; exact h
      obtain ⟨p, hp, hcp⟩ := hE.str (show k < 13 by omega)
      have hpl := HPL.out p (List.mem_of_getElem? hp)
      have HAT : Hid ((∃ n, Lib.atoiAll p = .ok n ∧ Hid (Calls Tryz.prog 151 #[sV p] wr fun e w' => Fr wr w' ∧ e = .returned (.tuple #[.int .i64 n, .nilIface]))) ∨ (intR p = none ∧ Hid (Calls Tryz.prog 151 #[sV p] wr fun e w' => Fr wr w' ∧ ∃ n t pv, e = .returned (.tuple #[.int .i64 n, .iface t pv])))) := by
        have h := atoi_any wr (HV.out.go HFr.out) p (by omega)
        cases ha : Lib.atoiAll p
        case ok n => rw [ha] at h; exact .inl ⟨n, rfl, h⟩
        all_goals (rw [ha] at h; exact .inr ⟨by unfold intR; rw [ha], h⟩)
      have hpk : (PS.take 11)[k]? = some p := by rw [List.getElem?_take, if_pos hlt]; exact hp
      have HBAD : Hid (intR p = none → X = (Rc.zero, 1)) := fun h => HX0.out.trans (by
        unfold recRead
        rw [← HPS.out, if_neg (by simp [H13.out]), intsR_none hpk h])
      have HP := Lib.hid hp
      clear hE hp hpl hpk
      rcases HAT.out with ⟨n, ha, AT⟩ | ⟨hno, AT⟩
      · clear HAT
        have hwn : wfI n := wfI.mk (Lib.atoiAll_bounds ha)
        have hint : intR p = if Lib.itoa n = p then some n else none := by unfold intR; rw [ha]
        have HINT := Lib.hid hint
        have HPK := Lib.hid hcp
        have HWN := Lib.hid hwn
        have hadb : ad.block < wr.heap.size := by have := World.block_lt_of_cell? wr _ hcp; rw [block_of_add] at this; exact this
        have i1 : (k : Int) < 13 := by omega
        have i2 : k < 13 := by omega
        clear ha hint hwn
        go_wp2_with fail
        (with_reducible refine (AT.out).mono ?_)
        rintro e w5 ⟨hf5, rfl⟩
        have HQ5 := Lib.hid (blk_go HQr.out hf5)
        have HN5 := Lib.hid (blk_go HN.out hf5)
        have HF5 : Hid (Fr w w5) := HFr.out.trans hf5
        have HC5 : Hid (Chg (fun b => b = nb) W3 w5) := HC.out.trans hf5.chg
        have hadb5 : ad.block < w5.heap.size := Nat.lt_of_lt_of_le hadb hf5.size
        have hSC : Hid (∀ w', Fr w5 w' → Fr w5 w' ∧ w'.cell? (ad.add k) = some (sV p)) := fun w' hf => ⟨hf, (hf.cell (by rw [block_of_add]; exact hadb5)).trans ((hf5.cell (World.block_lt_of_cell? wr _ HPK.out)).trans HPK.out)⟩
        have IT : Hid (Calls Tryz.prog 115 #[.int .i64 n] w5.drew fun e w' => e = .returned (sV (Lib.itoa n)) ∧ Fr w5.drew w') := itoa_any w5.drew ((HV.out.go HF5.out).go (frDrewN w5 1)) n HWN.out
        clear hf5 AT hcp HN HC HFr HQr
        go_wp2_with fail
        refine held_begin (n := 11) (bs := #[false, false, false, false, false, false, false, false, false, false, false]) rfl rfl (by kernel_rfl) (S := fun w' => Fr w5 w' ∧ w'.cell? (ad.add k) = some (sV p)) (hSC.out _ (Below.refl _ _).drew) (fun hHeld => ?_)
        ((first | refine held_sk (i := 0) ?_ | refine held_tk (i := 0) ?_); (first | refine held_sk (i := 1) ?_ | refine held_tk (i := 1) ?_); (first | refine held_sk (i := 2) ?_ | refine held_tk (i := 2) ?_); (first | refine held_sk (i := 3) ?_ | refine held_tk (i := 3) ?_); (first | refine held_sk (i := 5) ?_ | refine held_tk (i := 5) ?_); (first | refine held_sk (i := 6) ?_ | refine held_tk (i := 6) ?_); (first | refine held_sk (i := 7) ?_ | refine held_tk (i := 7) ?_); (first | refine held_sk (i := 8) ?_ | refine held_tk (i := 8) ?_))
        refine held_one (i := 4) rfl (by kernel_rfl) (fun K hK => ?_)
        go_simp
        go_at_call 115
        (with_reducible refine (IT.out).mono ?_)
        rintro e w6 ⟨rfl, hf6⟩
        (refine held_back hK (a' := ?hA3) (l' := ?hL3) ?ha3 ?hl3 (hSC.out _ ((Below.refl _ _).drew.trans hf6)) (fun hHeld => ?hh3); (case ha3 => first | with_reducible rfl | (simp only [Act.put, hq1, hq2, hq3, Option.isNone, Bool.not_true, Bool.not_false]; (try with_reducible rfl))); (case hl3 => (simp only [Act.put, hq1, hq2, hq3, Option.isNone, Bool.not_true, Bool.not_false]; (try with_reducible rfl))); clear hK K)
        ((first | refine held_sk (i := 9) ?_ | refine held_tk (i := 9) ?_); (first | refine held_sk (i := 10) ?_ | refine held_tk (i := 10) ?_))
        refine wpAnyH_done (by kernel_rfl) ?_ _
        have hf56 : Fr w5 w6 := (Below.refl _ _).drew.trans hf6
        have HF6 : Hid (Fr w w6) := HF5.out.trans hf56
        have HQ6 := Lib.hid (blk_go HQ5.out hf56)
        have HN6 := Lib.hid (blk_go HN5.out hf56)
        have HC6 : Hid (Chg (fun b => b = nb) W3 w6) := HC5.out.trans hf56.chg
        clear hHeld hf6 IT hSC HQ5 HN5 HF5 HC5 hf56 hadb hadb5 HPK
        by_cases he : Lib.itoa n = p
        · have te : (Lib.itoa n == p) = true := by simp [he]
          rw [te]
          have hin : intsR (PS.take (k + 1)) = some (vs ++ [n]) := by
            rw [List.take_add_one, HP.out]
            exact intsR_snoc HI.out (HINT.out.trans (if_pos he))
          have hvl : (vs ++ [n]).length = k + 1 := by rw [List.length_append, HVL.out]; rfl
          have hvw : ∀ x ∈ vs ++ [n], wfI x := fun x hx => by
            rcases List.mem_append.1 hx with hx | hx
            · exact HVW.out x hx
            · obtain rfl := List.mem_singleton.1 hx; exact HWN.out
          have hset : (vs ++ List.replicate (11 - k) 0).set k n = (vs ++ [n]) ++ List.replicate (11 - (k + 1)) 0 := by
            rw [List.set_append_right _ _ (by rw [HVL.out]; exact Nat.le_refl _), HVL.out, Nat.sub_self, show 11 - k = (11 - (k + 1)) + 1 by omega, List.replicate_succ, List.set_cons_zero, List.append_assoc]; rfl
          have hn7 := ca_set (i := k) (b := n) HN6.out
          rw [hset] at hn7
          have HN7 := Lib.hid hn7
          have hg : (vs ++ List.replicate (11 - k) 0)[k]? = some 0 := by
            rw [List.getElem?_append_right (by rw [HVL.out]; exact Nat.le_refl _), HVL.out, Nat.sub_self, show 11 - k = (11 - (k + 1)) + 1 by omega, List.replicate_succ]; rfl
          have n0 := ca_cell HN6.out hg
          have n1 := ca_free (i := k) HN6.out
          have HI7 := Lib.hid hin
          have HL7 := Lib.hid hvl
          have HW7 := Lib.hid hvw
          have HC7 : Hid (Chg (fun b => b = nb) W3 (w6.setCell ⟨nb, k, none⟩ (.int .i64 n))) := HC6.out.set rfl _
          have i3 : (k : Int) < 11 := by omega
          clear he HBAD HP hin hvl hvw hset hn7 hg HI HVL HVW HINT HWN HN6 HC6
          go_wp2_with fail
          go_roundw
          case rel => exact ⟨k + 1, vs ++ [n], by omega, by go_num, HI7, HL7, HW7, HN7, HC7⟩
          case measure => simp [intOf]; omega
        · have te : (Lib.itoa n == p) = false := by simp [he]
          rw [te]
          have hx := Lib.hid (HBAD.out (HINT.out.trans (if_neg he)))
          have hqx := HQ6.out
          (obtain ⟨bq0, bq1, bq2, bq3, bq4, bq5, bq6, bq7, bq8, bq9, bq10, bq11, bq12⟩ := box13_ hqx)
          have y0 := blk_free (i := 0) hqx
          have y1 := blk_free (i := 1) hqx
          have y2 := blk_free (i := 2) hqx
          have y3 := blk_free (i := 3) hqx
          have y4 := blk_free (i := 4) hqx
          have y5 := blk_free (i := 5) hqx
          have y6 := blk_free (i := 6) hqx
          have y7 := blk_free (i := 7) hqx
          have y8 := blk_free (i := 8) hqx
          have y9 := blk_free (i := 9) hqx
          have y10 := blk_free (i := 10) hqx
          have y11 := blk_free (i := 11) hqx
          have y12 := blk_free (i := 12) hqx
          have lq := (Array.getElem?_eq_some_iff.1 hqx).1
          clear he HBAD HP HPL H13 HX0 HPS hqx HI HVL HVW HINT HWN HN6 HC6
          go_wp2_with fail
          refine bodyPost_ret (v := .tuple #[.agg #[.int .i64 0, .int .i64 0, .int .i64 0, .int .i64 0, .int .i64 0, .int .i64 0, .int .i64 0, .int .i64 0, .int .i64 0, .int .i64 0, .int .i64 0, .slice none 0 0, .slice none 0 0], .int .i64 1]) ?_ rfl (rpost_err hx.out (bel13_ HF6.out (by have := HQW.out; omega)))
          simp [results, Tryz.results120, go_sem, bq0, bq1, bq2, bq3, bq4, bq5, bq6, bq7, bq8, bq9, bq10, bq11, bq12, lq]
      · have hx := Lib.hid (HBAD.out hno)
        clear HAT hno HBAD HP HPL H13 HX0 HPS
        go_wp2_with fail
        (with_reducible refine (AT.out).mono ?_)
        rintro e w5 ⟨hf5, n, t, pv, rfl⟩
        have hqx := blk_go HQr.out hf5
        have HF5 : Hid (Fr w w5) := HFr.out.trans hf5
        (obtain ⟨bq0, bq1, bq2, bq3, bq4, bq5, bq6, bq7, bq8, bq9, bq10, bq11, bq12⟩ := box13_ hqx)
        have y0 := blk_free (i := 0) hqx
        have y1 := blk_free (i := 1) hqx
        have y2 := blk_free (i := 2) hqx
        have y3 := blk_free (i := 3) hqx
        have y4 := blk_free (i := 4) hqx
        have y5 := blk_free (i := 5) hqx
        have y6 := blk_free (i := 6) hqx
        have y7 := blk_free (i := 7) hqx
        have y8 := blk_free (i := 8) hqx
        have y9 := blk_free (i := 9) hqx
        have y10 := blk_free (i := 10) hqx
        have y11 := blk_free (i := 11) hqx
        have y12 := blk_free (i := 12) hqx
        have lq := (Array.getElem?_eq_some_iff.1 hqx).1
        clear hf5 AT hcp hqx
        go_wp2_with fail
        refine held_begin (n := 11) (bs := #[false, false, false, false, false, false, false, false, false, false, false]) rfl rfl (by kernel_rfl) (S := fun w' => w' = w5.drew) rfl (fun hHeld => ?_)
        ((first | refine held_sk (i := 0) ?_ | refine held_tk (i := 0) ?_); (first | refine held_sk (i := 1) ?_ | refine held_tk (i := 1) ?_); (first | refine held_sk (i := 2) ?_ | refine held_tk (i := 2) ?_); (first | refine held_sk (i := 3) ?_ | refine held_tk (i := 3) ?_); (first | refine held_sk (i := 4) ?_ | refine held_tk (i := 4) ?_); (first | refine held_sk (i := 5) ?_ | refine held_tk (i := 5) ?_); (first | refine held_sk (i := 6) ?_ | refine held_tk (i := 6) ?_); (first | refine held_sk (i := 7) ?_ | refine held_tk (i := 7) ?_); (first | refine held_sk (i := 8) ?_ | refine held_tk (i := 8) ?_); (first | refine held_sk (i := 9) ?_ | refine held_tk (i := 9) ?_); (first | refine held_sk (i := 10) ?_ | refine held_tk (i := 10) ?_))
        refine wpAnyH_done (by kernel_rfl) ?_ _
        clear hHeld
        go_wp2_with fail
        refine bodyPost_ret (v := .tuple #[.agg #[.int .i64 0, .int .i64 0, .int .i64 0, .int .i64 0, .int .i64 0, .int .i64 0, .int .i64 0, .int .i64 0, .int .i64 0, .int .i64 0, .int .i64 0, .slice none 0 0, .slice none 0 0], .int .i64 1]) ?_ rfl (rpost_err hx.out (bel13_ HF5.out (by have := HQW.out; omega)).drew)
        simp [results, Tryz.results120, go_sem, bq0, bq1, bq2, bq3, bq4, bq5, bq6, bq7, bq8, bq9, bq10, bq11, bq12, lq]
    · have hk' : k = 11 := by omega
      have hv11 : vs.length = 11 := by rw [HVL.out, hk']
      have hI : intsR (PS.take 11) = some vs := by rw [← hk']; exact HI.out
      have hn11 : wr.heap[nb]? = some (.cells (ca (Value.int .i64) vs) 177 (0, 0)) := by
        have := HN.out
        rw [hk', show 11 - 11 = 0 from rfl, List.replicate_zero, List.append_nil] at this
        exact this
      have hE : Els 1 eStr wr (LT nb) ad 13 PS := by
        obtain ⟨ad', e, h⟩ := (HSL3.out.chg sStr HC.out fun b hb => ⟨Nat.lt_trans hb hn3, fun e => by have e : b = nb := e; have hb : b < nb := hb; omega⟩).els (by omega)
        injection e with e
        subst e; exact h
      obtain ⟨p1, hp1, hc1⟩ := hE.str (show 11 < 13 by omega)
      obtain ⟨p2, hp2, hc2⟩ := hE.str (show 12 < 13 by omega)
      have hc1' : wr.cell? ⟨ad.block, ad.off + 11, none⟩ = some (sV p1) := hc1
      have hc2' : wr.cell? ⟨ad.block, ad.off + 12, none⟩ = some (sV p2) := hc2
      have hl1 := HPL.out p1 (List.mem_of_getElem? hp1)
      have hl2 := HPL.out p2 (List.mem_of_getElem? hp2)
      have HXE : Hid (X = match wordR p1 with
          | none => (Rc.zero, 1)
          | some d => match wordR p2 with
            | none => (Rc.zero, 1)
            | some c => if recCheck (recOf vs d c) ≠ 0 then (Rc.zero, recCheck (recOf vs d c)) else (recOf vs d c, 0)) := HX0.out.trans (by
        unfold recRead
        rw [← HPS.out, if_neg (by simp [H13.out]), hI]
        simp only [List.getD_eq_getElem?_getD, hp1, hp2, Option.getD_some]
        cases wordR p1 with
        | none => rfl
        | some d => cases wordR p2 <;> rfl)
      have h34 := HC.out.size
      obtain ⟨W4, hW4⟩ : ∃ W4, W4 = wr := ⟨_, rfl⟩
      rw [← hW4] at h34 hn11 hc1 hc2 hc1' hc2' HFr HQr
      rw [← hW4]
      have HN4 := Lib.hid hn11
      have HC1 := Lib.hid hc1
      have HC2 := Lib.hid hc2'
      have HL1 := Lib.hid hl1
      have HL2 := Lib.hid hl2
      have HV11 := Lib.hid hv11
      have hb4 : ad.block < W4.heap.size := by have := World.block_lt_of_cell? W4 _ hc1; rw [block_of_add] at this; exact this
      have BY1 : Hid (Calls Tryz.prog 152 #[sV p1] W4 (WbPost W4 (wordR p1))) := noteBytes_any W4 p1 (by omega)
      clear hk' hW4 hI HI HVL HN HC hE hp1 hp2 hl1 hl2 hn11 hv11 HPL HPS HX0 H13 hc2 hc2'
      go_wp2_with fail
      (with_reducible refine (BY1.out).mono ?_)
      rintro e w5 h5
      obtain ⟨A1, n1, c1, rfl, hf5, hs5⟩ := wb_out h5
      obtain ⟨o1, ho1⟩ : ∃ o1, o1 = (wordR p1).isSome := ⟨_, rfl⟩
      rw [← ho1]
      have hc5 : w5.cell? ⟨ad.block, ad.off + 12, none⟩ = some (sV p2) := (hf5.cell (p := ⟨ad.block, ad.off + 12, none⟩) hb4).trans HC2.out
      have BY2 : Hid (Calls Tryz.prog 152 #[sV p2] w5 (WbPost w5 (wordR p2))) := noteBytes_any w5 p2 (by have := HL2.out; omega)
      have HQ5 := Lib.hid (blk_go HQr.out hf5)
      have HN5 := Lib.hid (blk_go HN4.out hf5)
      have HF5 : Hid (Fr w w5) := HFr.out.trans hf5
      have HS5 := Lib.hid hs5
      have h45 : W4.heap.size ≤ w5.heap.size := hf5.size
      have HO1 := Lib.hid ho1
      clear h5 hf5 hs5 ho1 BY1 hc1 hc1' HQr HN4 HC1 HC2
      go_wp2_with fail
      (with_reducible refine (BY2.out).mono ?_)
      rintro e w6 h6
      obtain ⟨A2, n2, c2, rfl, hf6, hs6⟩ := wb_out h6
      obtain ⟨o2, ho2⟩ : ∃ o2, o2 = (wordR p2).isSome := ⟨_, rfl⟩
      rw [← ho2]
      have HQ6 := Lib.hid (blk_go HQ5.out hf6)
      have HN6 := Lib.hid (blk_go HN5.out hf6)
      have HF6 : Hid (Fr w w6) := HF5.out.trans hf6
      have HF56 := Lib.hid hf6
      have HS6 := Lib.hid hs6
      have h56 : w5.heap.size ≤ w6.heap.size := hf6.size
      clear h6 hf6 hs6 BY2 hc5 HQ5 HN5
      have hqx := HQ6.out
      cases hw1 : wordR p1 with
      | none =>
        have h1 : o1 = false := by rw [HO1.out, hw1]; rfl
        have hx : Hid (X = (Rc.zero, 1)) := HXE.out.trans (by rw [hw1])
        rw [h1]
        clear h1 hw1 HO1 ho2 HXE HS5 HS6
        (obtain ⟨bq0, bq1, bq2, bq3, bq4, bq5, bq6, bq7, bq8, bq9, bq10, bq11, bq12⟩ := box13_ hqx)
        have y0 := blk_free (i := 0) hqx
        have y1 := blk_free (i := 1) hqx
        have y2 := blk_free (i := 2) hqx
        have y3 := blk_free (i := 3) hqx
        have y4 := blk_free (i := 4) hqx
        have y5 := blk_free (i := 5) hqx
        have y6 := blk_free (i := 6) hqx
        have y7 := blk_free (i := 7) hqx
        have y8 := blk_free (i := 8) hqx
        have y9 := blk_free (i := 9) hqx
        have y10 := blk_free (i := 10) hqx
        have y11 := blk_free (i := 11) hqx
        have y12 := blk_free (i := 12) hqx
        have lq := (Array.getElem?_eq_some_iff.1 hqx).1
        clear hqx
        go_wp2_with fail
        refine bodyPost_ret (v := .tuple #[.agg #[.int .i64 0, .int .i64 0, .int .i64 0, .int .i64 0, .int .i64 0, .int .i64 0, .int .i64 0, .int .i64 0, .int .i64 0, .int .i64 0, .int .i64 0, .slice none 0 0, .slice none 0 0], .int .i64 1]) ?_ rfl (rpost_err hx.out (bel13_ HF6.out (by have := HQW.out; omega)))
        simp [results, Tryz.results120, go_sem, bq0, bq1, bq2, bq3, bq4, bq5, bq6, bq7, bq8, bq9, bq10, bq11, bq12, lq]
      | some d =>
      cases hw2 : wordR p2 with
      | none =>
        have h1 : o1 = true := by rw [HO1.out, hw1]; rfl
        have h2 : o2 = false := by rw [ho2, hw2]; rfl
        have hx : Hid (X = (Rc.zero, 1)) := HXE.out.trans (by rw [hw1, hw2])
        rw [h1, h2]
        clear h1 h2 hw1 hw2 HO1 ho2 HXE HS5 HS6
        (obtain ⟨bq0, bq1, bq2, bq3, bq4, bq5, bq6, bq7, bq8, bq9, bq10, bq11, bq12⟩ := box13_ hqx)
        have y0 := blk_free (i := 0) hqx
        have y1 := blk_free (i := 1) hqx
        have y2 := blk_free (i := 2) hqx
        have y3 := blk_free (i := 3) hqx
        have y4 := blk_free (i := 4) hqx
        have y5 := blk_free (i := 5) hqx
        have y6 := blk_free (i := 6) hqx
        have y7 := blk_free (i := 7) hqx
        have y8 := blk_free (i := 8) hqx
        have y9 := blk_free (i := 9) hqx
        have y10 := blk_free (i := 10) hqx
        have y11 := blk_free (i := 11) hqx
        have y12 := blk_free (i := 12) hqx
        have lq := (Array.getElem?_eq_some_iff.1 hqx).1
        clear hqx
        go_wp2_with fail
        refine bodyPost_ret (v := .tuple #[.agg #[.int .i64 0, .int .i64 0, .int .i64 0, .int .i64 0, .int .i64 0, .int .i64 0, .int .i64 0, .int .i64 0, .int .i64 0, .int .i64 0, .int .i64 0, .slice none 0 0, .slice none 0 0], .int .i64 1]) ?_ rfl (rpost_err hx.out (bel13_ HF6.out (by have := HQW.out; omega)))
        simp [results, Tryz.results120, go_sem, bq0, bq1, bq2, bq3, bq4, bq5, bq6, bq7, bq8, bq9, bq10, bq11, bq12, lq]
      | some cg =>
      have h1 : o1 = true := by rw [HO1.out, hw1]; rfl
      have h2 : o2 = true := by rw [ho2, hw2]; rfl
      obtain ⟨e1, hk1, hsl1⟩ := HS5.out d hw1
      obtain ⟨e2, hk2, hsl2⟩ := HS6.out cg hw2
      have hld := wordR_len hw1
      have hlc := wordR_len hw2
      have hl1' := HL1.out
      have hl2' := HL2.out
      obtain ⟨a0, a1, a2, a3, a4, a5, a6, a7, a8, a9, a10, hvs⟩ : ∃ a0 a1 a2 a3 a4 a5 a6 a7 a8 a9 a10, vs = [a0, a1, a2, a3, a4, a5, a6, a7, a8, a9, a10] := by
        have := HV11.out
        match vs, this with
        | [a0, a1, a2, a3, a4, a5, a6, a7, a8, a9, a10], _ => exact ⟨a0, a1, a2, a3, a4, a5, a6, a7, a8, a9, a10, rfl⟩
      subst hvs
      have HXR : Hid (X = if recCheck (recOf [a0, a1, a2, a3, a4, a5, a6, a7, a8, a9, a10] d cg) ≠ 0 then (Rc.zero, recCheck (recOf [a0, a1, a2, a3, a4, a5, a6, a7, a8, a9, a10] d cg)) else (recOf [a0, a1, a2, a3, a4, a5, a6, a7, a8, a9, a10] d cg, 0)) := HXE.out.trans (by rw [hw1, hw2])
      have hwf : (recOf [a0, a1, a2, a3, a4, a5, a6, a7, a8, a9, a10] d cg).wf := by
        have hv := HVW.out
        simp only [List.forall_mem_cons] at hv
        obtain ⟨v0, v1, v2, v3, v4, v5, v6, v7, v8, v9, v10, _⟩ := hv
        exact ⟨v0, v1, v2, v3, ⟨v4, v5, v6, v7, v8, v9⟩, v10⟩
      obtain ⟨ck, hck⟩ : ∃ ck, ck = recCheck (recOf [a0, a1, a2, a3, a4, a5, a6, a7, a8, a9, a10] d cg) := ⟨_, rfl⟩
      rw [← hck] at HXR
      have CK : Hid (∀ W, Calls Tryz.prog 64 #[.agg #[.int .i64 a0, .int .i64 a1, .int .i64 a2, .int .i64 a3, .int .i64 a4, .int .i64 a5, .int .i64 a6, .int .i64 a7, .int .i64 a8, .int .i64 a9, .int .i64 a10, .slice A1 n1 c1, .slice A2 n2 c2]] W fun e w' => e = .returned (.int .i64 ck) ∧ Fr W w') := fun W => by
        rw [hck]; exact noteCheck_any W (recOf [a0, a1, a2, a3, a4, a5, a6, a7, a8, a9, a10] d cg) A1 n1 c1 A2 n2 c2 hwf e1.symm e2.symm
      have HWF := Lib.hid hwf
      have hnx : w6.heap[nb]? = some (.cells #[.int .i64 a0, .int .i64 a1, .int .i64 a2, .int .i64 a3, .int .i64 a4, .int .i64 a5, .int .i64 a6, .int .i64 a7, .int .i64 a8, .int .i64 a9, .int .i64 a10] 177 (0, 0)) := HN6.out
      have HB1 : Hid (Byt w6 (NW W4.heap.size w6.heap.size) A1 n1 c1 d) := ⟨⟨by unfold lim; omega, hk1⟩, (hsl1.keep sByte fun x hx => HF56.out.cell hx.2).more sByte fun x hx => ⟨hx.1, Nat.lt_of_lt_of_le hx.2 h56⟩⟩
      have HB2 : Hid (Byt w6 (NW W4.heap.size w6.heap.size) A2 n2 c2 cg) := ⟨⟨by unfold lim; omega, hk2⟩, hsl2.more sByte fun x hx => ⟨Nat.le_trans h45 hx.1, hx.2⟩⟩
      have hw4 : w.heap.size < W4.heap.size := by omega
      rw [h1, h2]
      clear h1 h2 e1 e2 hk1 hk2 hsl1 hsl2 hld hlc hl1' hl2' hw1 hw2 HO1 ho2 HXE HS5 HS6 hck hwf HF56 hqx HVW HV11
      (obtain ⟨bn0, bn1, bn2, bn3, bn4, bn5, bn6, bn7, bn8, bn9, bn10⟩ := box11_ hnx)
      clear hnx
      go_wp2_with fail
      obtain ⟨W7, hW7⟩ : ∃ W7, W7 = w6.alloc (.cells #[.int .i64 a0, .int .i64 a1, .int .i64 a2, .int .i64 a3, .int .i64 a4, .int .i64 a5, .int .i64 a6, .int .i64 a7, .int .i64 a8, .int .i64 a9, .int .i64 a10, .slice A1 n1 c1, .slice A2 n2 c2] 40) := ⟨_, rfl⟩
      obtain ⟨zb, hzb⟩ : ∃ zb, zb = w6.heap.size := ⟨_, rfl⟩
      have hz7 : W7.heap[zb]? = some (.cells #[.int .i64 a0, .int .i64 a1, .int .i64 a2, .int .i64 a3, .int .i64 a4, .int .i64 a5, .int .i64 a6, .int .i64 a7, .int .i64 a8, .int .i64 a9, .int .i64 a10, .slice A1 n1 c1, .slice A2 n2 c2] 40 (0, 0)) := by rw [hW7]; exact heap_new hzb
      have hf7 : Fr w6 W7 := by rw [hW7]; exact frAlloc _ _
      rw [← hW7, ← hzb]
      have HZ7 := Lib.hid hz7
      have HF67 := Lib.hid hf7
      have hzq : q ≠ zb := by omega
      clear hW7 hzb hz7 hf7 bn0 bn1 bn2 bn3 bn4 bn5 bn6 bn7 bn8 bn9 bn10
      (with_reducible refine (CK.out W7).mono ?_)
      rintro e w8 ⟨rfl, hf8⟩
      have hf68 := HF67.out.trans hf8
      have HF68 := Lib.hid hf68
      have HF8 : Hid (Fr w w8) := HF6.out.trans hf68
      have hqx := blk_go HQ6.out hf68
      have hzx := blk_go HZ7.out hf8
      have HQ8 := Lib.hid hqx
      clear hf8 hf68 CK HZ7 HF67 HQ6
      (obtain ⟨bq0, bq1, bq2, bq3, bq4, bq5, bq6, bq7, bq8, bq9, bq10, bq11, bq12⟩ := box13_ hqx)
      have y0 := blk_free (i := 0) hqx
      have y1 := blk_free (i := 1) hqx
      have y2 := blk_free (i := 2) hqx
      have y3 := blk_free (i := 3) hqx
      have y4 := blk_free (i := 4) hqx
      have y5 := blk_free (i := 5) hqx
      have y6 := blk_free (i := 6) hqx
      have y7 := blk_free (i := 7) hqx
      have y8 := blk_free (i := 8) hqx
      have y9 := blk_free (i := 9) hqx
      have y10 := blk_free (i := 10) hqx
      have y11 := blk_free (i := 11) hqx
      have y12 := blk_free (i := 12) hqx
      have lq := (Array.getElem?_eq_some_iff.1 hqx).1
      by_cases h0 : ck = 0
      · have t0 : (ck != 0) = false := by simp [h0]
        have hx : Hid (X = (recOf [a0, a1, a2, a3, a4, a5, a6, a7, a8, a9, a10] d cg, 0)) := HXR.out.trans (if_neg (by simp [h0]))
        (obtain ⟨bz0, bz1, bz2, bz3, bz4, bz5, bz6, bz7, bz8, bz9, bz10, bz11, bz12⟩ := box13_ hzx)
        have KEY : Hid (∀ W9, Chg (fun b => b = q) w8 W9 → Fr w W9 → RPost w X (.returned (.tuple #[.agg #[.int .i64 a0, .int .i64 a1, .int .i64 a2, .int .i64 a3, .int .i64 a4, .int .i64 a5, .int .i64 a6, .int .i64 a7, .int .i64 a8, .int .i64 a9, .int .i64 a10, .slice A1 n1 c1, .slice A2 n2 c2], .int .i64 0])) W9) := by
          intro W9 hC hF
          have hs := HF68.out.size
          have hs9 := hC.size
          have hkeep : ∀ {A : Option Addr} {n c : Nat} {l : List UInt8}, Byt w6 (NW W4.heap.size w6.heap.size) A n c l → Byt W9 (NW w.heap.size W9.heap.size) A n c l := fun h =>
            ⟨h.1, ((h.2.keep sByte fun x hx => HF68.out.cell hx.2).chg sByte hC fun b hb => ⟨Nat.lt_of_lt_of_le hb.2 hs, fun e => by have e : b = q := e; have := hb.1; omega⟩).more sByte fun b hb => ⟨by have := hb.1; omega, by have := hb.2; omega⟩⟩
          rw [hx.out]
          exact ⟨A1, n1, c1, A2, n2, c2, rfl, HWF.out, hkeep HB1.out, hkeep HB2.out, hF⟩
        clear h0 HXR hqx hzx
        go_wp2_with fail
        refine bodyPost_ret (v := .tuple #[.agg #[.int .i64 a0, .int .i64 a1, .int .i64 a2, .int .i64 a3, .int .i64 a4, .int .i64 a5, .int .i64 a6, .int .i64 a7, .int .i64 a8, .int .i64 a9, .int .i64 a10, .slice A1 n1 c1, .slice A2 n2 c2], .int .i64 0]) ?_ rfl (KEY.out _ (Chg.of (grw13_ ⟨rfl, rfl, rfl, Nat.le_refl _, fun _ _ _ => rfl⟩)) (bel13_ HF8.out (by have := HQW.out; omega)))
        simp [results, Tryz.results120, go_sem, bq0, bq1, bq2, bq3, bq4, bq5, bq6, bq7, bq8, bq9, bq10, bq11, bq12, lq]
      · have t0 : (ck != 0) = true := by simp [h0]
        have hx : Hid (X = (Rc.zero, ck)) := HXR.out.trans (if_pos h0)
        clear h0 HXR hqx hzx
        go_wp2_with fail
        refine bodyPost_ret (v := .tuple #[.agg #[.int .i64 0, .int .i64 0, .int .i64 0, .int .i64 0, .int .i64 0, .int .i64 0, .int .i64 0, .int .i64 0, .int .i64 0, .int .i64 0, .int .i64 0, .slice none 0 0, .slice none 0 0], .int .i64 ck]) ?_ rfl (rpost_err hx.out (bel13_ HF8.out (by have := HQW.out; omega)))
        simp [results, Tryz.results120, go_sem, bq0, bq1, bq2, bq3, bq4, bq5, bq6, bq7, bq8, bq9, bq10, bq11, bq12, lq]
end Go.Proofs.YtmiaplgfbphfmaaGreatDoor
