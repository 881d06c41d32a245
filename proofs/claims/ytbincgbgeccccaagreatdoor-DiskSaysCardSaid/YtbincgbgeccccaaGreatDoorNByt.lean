/- note.bytes: two digits each as bytes. No condition but the length. -/
import Derived.Test.YtbincgbgeccccaaGreatDoorNDig
import Derived.Test.YtbincgbgeccccaaGreatDoorHeld
set_option linter.unusedSimpArgs false
set_option linter.unusedVariables false
namespace Go.Proofs.YtbincgbgeccccaaGreatDoor
open Go.RowKit
attribute [local irreducible] wpList

theorem hexR_odd : ∀ (l : List UInt8), l.length % 2 = 1 → hexR l = none
  | [], h => by simp at h
  | [_], _ => rfl
  | a :: b :: l, h => by
    rw [hexR, hexR_odd l (by simp only [List.length_cons] at h; omega)]
    split <;> rfl
theorem str_get (m : List UInt8) (i : Nat) (h : i < (⟨m.toArray⟩ : ByteArray).size) (x : UInt8) (hx : m[i]? = some x) : (⟨m.toArray⟩ : ByteArray)[i] = x := by
  obtain ⟨h1, h2⟩ := List.getElem?_eq_some_iff.1 hx
  exact h2
theorem u8_back (x : UInt8) : ((x.toNat : Int)).toNat.toUInt8 = x := by simp
theorem or_hex {a b : Int} (ha : 0 ≤ a ∧ a < 16) (hb : 0 ≤ b ∧ b < 16) : bits BinOp.or IntKind.i64 (a * 16) b % 256 = ((UInt8.ofNat (a.toNat * 16 + b.toNat)).toNat : Int) := by
  have key : ∀ (x y : Fin 16), bits BinOp.or IntKind.i64 ((x.val : Int) * 16) (y.val : Int) % 256 = ((UInt8.ofNat (x.val * 16 + y.val)).toNat : Int) := by decide +kernel
  have := key ⟨a.toNat, by omega⟩ ⟨b.toNat, by omega⟩
  simpa [Int.toNat_of_nonneg ha.1, Int.toNat_of_nonneg hb.1] using this
theorem idx_bd (x : UInt8) : -1 ≤ Lib.indexByte sixteen x ∧ Lib.indexByte sixteen x < 16 := by
  have h1 := Lib.indexByte_ge sixteen x
  refine ⟨h1, ?_⟩
  by_cases h : 0 ≤ Lib.indexByte sixteen x
  · have := (index_hexD h).1; omega
  · omega
/-- What note.bytes leaves: bytes of its own, or none. -/
def WbPost (w : World) (r : Option (List UInt8)) (e : Ending) (w' : World) : Prop := Fr w w' ∧ match r with
  | some b => ∃ A c, e = .returned (.tuple #[.slice A b.length c, .bool true]) ∧ (b.length ≤ c ∧ c ≤ maxLen) ∧ Sl 1 eByte w' (NW w.heap.size w'.heap.size) A b.length b
  | none => e = .returned (.tuple #[.slice none 0 0, .bool false])
theorem wb_none {w w' : World} {r : Option (List UInt8)} (hr : r = none) (hf : Fr w w') : WbPost w r (.returned (.tuple #[.slice none 0 0, .bool false])) w' := by subst hr; exact ⟨hf, rfl⟩
theorem wb_some {w w' : World} {r : Option (List UInt8)} {b : List UInt8} {A : Option Addr} {c : Nat} (hr : r = some b) (hf : Fr w w') (hc : b.length ≤ c ∧ c ≤ maxLen) (hs : Sl 1 eByte w' (NW w.heap.size w'.heap.size) A b.length b) : WbPost w r (.returned (.tuple #[.slice A b.length c, .bool true])) w' := by subst hr; exact ⟨hf, A, c, rfl, hc, hs⟩
theorem Own.nwByt {w : World} {base : Nat} {e : TypeId} {v : Value} {l : List UInt8} (h : Own 1 eByte w base e v l) : ∃ A c, v = .slice A l.length c ∧ (l.length ≤ c ∧ c ≤ maxLen) ∧ Sl 1 eByte w (NW base w.heap.size) A l.length l := by
  obtain ⟨A, c, rfl, hc, hs⟩ := h.slC sByte (by decide)
  refine ⟨A, c, rfl, hc, hs.1, fun hn => ?_⟩
  obtain ⟨ad, rfl, hb, hx⟩ := hs.2 hn
  refine ⟨ad, rfl, ⟨?_, hb⟩, hx⟩
  obtain ⟨cs, ho, _⟩ := h
  exact (ho.lt ad.block rfl).1

set_option maxRecDepth 100000 in
set_option maxHeartbeats 8000000 in
theorem noteBytes_good (w : World) (m : List UInt8) (hm : m.length ≤ 1000000) (he : m.length % 2 = 0) :
    Calls Tryz.prog 53 #[sV (45 :: m)] w (WbPost w (hexR m)) := by
  have hsz := sV_size m
  have hpre : Lib.hasPrefix (45 :: m) [45] = true := by simp [Lib.hasPrefix]
  have htrim : Lib.trimPrefix (45 :: m) [45] = m := by simp [Lib.trimPrefix, Lib.hasPrefix]
  have HR0 : Hid (hexR m = (match hexR (m.drop 0) with | none => none | some r => some ([] ++ r))) := by
    rw [Hid, List.drop_zero]; cases hexR m <;> rfl
  go_enter Tryz.func53, Tryz.ntmps53
  go_wp2_with fail
  refine (Tryz.strings_CutPrefix _ _ _).mono ?_
  rintro e w1 ⟨rfl, hw1⟩
  rw [hw1, show Lib.trimPrefix (⟨(45 :: m).toArray⟩ : ByteArray).data.toList (⟨#[45]⟩ : ByteArray).data.toList = m from htrim, show Lib.hasPrefix (⟨(45 :: m).toArray⟩ : ByteArray).data.toList (⟨#[45]⟩ : ByteArray).data.toList = true from hpre]
  clear hw1 w1 hpre htrim
  have t1 : (m.length : Int) % 2 = 0 := by omega
  have HZ := Lib.hid hsz
  go_wp2_with fail
  clear t1
  go_loopw [5, 6] (fun s5 s6 wr => ∃ (k : Nat) (bs : List UInt8), 2 * k ≤ m.length ∧ bs.length = k ∧ s6 = .int .i64 (2 * (k : Int)) ∧ Hid (Own 1 eByte wr w.heap.size 5 s5 bs) ∧ Hid (Fr w wr) ∧ Hid (hexR m = (match hexR (m.drop (2 * k)) with | none => none | some r => some (bs ++ r)))) (fun _ i _ => m.length - (intOf i).toNat)
  case atStart => exact ⟨0, [], Nat.zero_le _, rfl, rfl, Own.nil, Below.refl _ _, HR0⟩
  case round =>
    obtain ⟨k, bs, hk, hbl, rfl, HO, HF, HR⟩ := hrel
    clear HR0
    by_cases hlt : 2 * k < m.length
    · have hx : m[2 * k]? = some m[2 * k] := List.getElem?_eq_getElem (by omega)
      have hy : m[2 * k + 1]? = some m[2 * k + 1] := List.getElem?_eq_getElem (by omega)
      have hd : m.drop (2 * k) = m[2 * k] :: m[2 * k + 1] :: m.drop (2 * (k + 1)) := by
        rw [List.drop_eq_getElem_cons (by omega), List.drop_eq_getElem_cons (by omega)]; rfl
      obtain ⟨x, hxe⟩ : ∃ x, x = m[2 * k] := ⟨_, rfl⟩
      obtain ⟨y, hye⟩ : ∃ y, y = m[2 * k + 1] := ⟨_, rfl⟩
      rw [← hxe] at hx hd
      rw [← hye] at hy hd
      have HX := Lib.hid hx
      have HY := Lib.hid hy
      have HD := Lib.hid hd
      have s1 : (⟨m.toArray⟩ : ByteArray).size = m.length := HZ.out
      have i1 : 2 * (k : Int) < (m.length : Int) := by omega
      have i2 : 2 * (k : Int) + 1 < (m.length : Int) := by omega
      have i0 : 0 ≤ 2 * (k : Int) := by omega
      have i4 : 0 ≤ 2 * (k : Int) + 1 := by omega
      have i3 : IntKind.i64.wrap (2 * (k : Int) + 1) = 2 * (k : Int) + 1 := by rw [IntKind.wrap_i64]; omega
      have h1 : (2 * (k : Int)).toNat < (⟨m.toArray⟩ : ByteArray).size := by rw [s1]; omega
      have h2 : (2 * (k : Int) + 1).toNat < (⟨m.toArray⟩ : ByteArray).size := by rw [s1]; omega
      have A1 : (⟨m.toArray⟩ : ByteArray)[(2 * (k : Int)).toNat] = x := str_get m _ h1 x (by rw [show (2 * (k : Int)).toNat = 2 * k by omega]; exact hx)
      have A2 : (⟨m.toArray⟩ : ByteArray)[(2 * (k : Int) + 1).toNat] = y := str_get m _ h2 y (by rw [show (2 * (k : Int) + 1).toNat = 2 * k + 1 by omega]; exact hy)
      obtain ⟨ix, hix⟩ : ∃ ix, ix = Lib.indexByte sixteen x := ⟨_, rfl⟩
      obtain ⟨iy, hiy⟩ : ∃ iy, iy = Lib.indexByte sixteen y := ⟨_, rfl⟩
      have C1 : Hid (∀ W, Calls Tryz.prog 59 #[.string ⟨#[48, 49, 50, 51, 52, 53, 54, 55, 56, 57, 97, 98, 99, 100, 101, 102]⟩, .int .u8 ((⟨m.toArray⟩ : ByteArray)[(2 * (k : Int)).toNat]).toNat] W fun e w' => e = .returned (.int .i64 ix) ∧ w' = W) := fun W => by
        have := Tryz.strings_IndexByte ⟨#[48, 49, 50, 51, 52, 53, 54, 55, 56, 57, 97, 98, 99, 100, 101, 102]⟩ ((⟨m.toArray⟩ : ByteArray)[(2 * (k : Int)).toNat]).toNat W
        rw [A1, u8_back] at this
        rw [A1, hix]
        exact this
      have C2 : Hid (∀ W, Calls Tryz.prog 59 #[.string ⟨#[48, 49, 50, 51, 52, 53, 54, 55, 56, 57, 97, 98, 99, 100, 101, 102]⟩, .int .u8 ((⟨m.toArray⟩ : ByteArray)[(2 * (k : Int) + 1).toNat]).toNat] W fun e w' => e = .returned (.int .i64 iy) ∧ w' = W) := fun W => by
        have := Tryz.strings_IndexByte ⟨#[48, 49, 50, 51, 52, 53, 54, 55, 56, 57, 97, 98, 99, 100, 101, 102]⟩ ((⟨m.toArray⟩ : ByteArray)[(2 * (k : Int) + 1).toNat]).toNat W
        rw [A2, u8_back] at this
        rw [A2, hiy]
        exact this
      have hbx := idx_bd x
      have hby := idx_bd y
      rw [← hix] at hbx
      rw [← hiy] at hby
      have hstep : hexR m = if ix < 0 ∨ iy < 0 then none else (match hexR (m.drop (2 * (k + 1))) with | none => none | some r => some (bs ++ (UInt8.ofNat (ix.toNat * 16 + iy.toNat) :: r))) := by
        rw [HR.out, hd, hexR, hix, hiy]
        by_cases hc : Lib.indexByte sixteen x < 0 ∨ Lib.indexByte sixteen y < 0
        · rw [if_pos hc, if_pos hc]
        · rw [if_neg hc, if_neg hc]
          cases hexR (m.drop (2 * (k + 1))) <;> rfl
      have HST := Lib.hid hstep
      clear hx hy hd hxe hye A1 A2 hix hiy HX HY HD HR hstep
      go_wp2_with fail
      refine held_begin (n := 11) (bs := #[false, false, false, false, false, false, false, false, false, false, false]) rfl rfl (by kernel_rfl) (S := fun w' => w' = wr.drew) rfl (fun hHeld => ?_)
      ((first | refine held_sk (i := 0) ?_ | refine held_tk (i := 0) ?_); (first | refine held_sk (i := 1) ?_ | refine held_tk (i := 1) ?_); (first | refine held_sk (i := 2) ?_ | refine held_tk (i := 2) ?_); (first | refine held_sk (i := 4) ?_ | refine held_tk (i := 4) ?_); (first | refine held_sk (i := 5) ?_ | refine held_tk (i := 5) ?_); (first | refine held_sk (i := 6) ?_ | refine held_tk (i := 6) ?_); (first | refine held_sk (i := 7) ?_ | refine held_tk (i := 7) ?_))
      refine held_one (i := 3) rfl (by kernel_rfl) (fun K hK => ?_)
      go_simp
      go_at_call 59
      (with_reducible refine (C1.out _).mono ?_)
      rintro e w6 ⟨rfl, rfl⟩
      (refine held_back hK (a' := ?hA1) (l' := ?hL1) ?ha1 ?hl1 (rfl) (fun hHeld => ?hh1); (case ha1 => first | with_reducible rfl | (simp only [Act.put, hq1, hq2, hq3, Option.isNone, Bool.not_true, Bool.not_false]; (try with_reducible rfl))); (case hl1 => (simp only [Act.put, hq1, hq2, hq3, Option.isNone, Bool.not_true, Bool.not_false]; (try with_reducible rfl))); clear hK K)
      refine held_one (i := 8) rfl (by kernel_rfl) (fun K hK => ?_)
      go_simp
      go_at_call 59
      (with_reducible refine (C2.out _).mono ?_)
      rintro e w6 ⟨rfl, rfl⟩
      (refine held_back hK (a' := ?hA2) (l' := ?hL2) ?ha2 ?hl2 (rfl) (fun hHeld => ?hh2); (case ha2 => first | with_reducible rfl | (simp only [Act.put, hq1, hq2, hq3, Option.isNone, Bool.not_true, Bool.not_false]; (try with_reducible rfl))); (case hl2 => (simp only [Act.put, hq1, hq2, hq3, Option.isNone, Bool.not_true, Bool.not_false]; (try with_reducible rfl))); clear hK K)
      ((first | refine held_sk (i := 9) ?_ | refine held_tk (i := 9) ?_); (first | refine held_sk (i := 10) ?_ | refine held_tk (i := 10) ?_))
      refine wpAnyH_done (by kernel_rfl) ?_ _
      clear C1 C2 hHeld
      by_cases hbad : ix < 0 ∨ iy < 0
      · have hnone : Hid (hexR m = none) := HST.out.trans (if_pos hbad)
        by_cases hx0 : ix < 0
        · clear hbad
          go_wp2_with fail
          go_ret2
          exact wb_none hnone.out (HF.out.trans (by (repeat' (first | exact Below.refl _ _ | refine below_drewN ?_ _ | refine Below.drew ?_ | refine frA ?_ _))))
        · have hy0 : iy < 0 := by omega
          clear hbad
          go_wp2_with fail
          go_ret2
          exact wb_none hnone.out (HF.out.trans (by (repeat' (first | exact Below.refl _ _ | refine below_drewN ?_ _ | refine Below.drew ?_ | refine frA ?_ _))))
      · have hgood : Hid (hexR m = _) := HST.out.trans (if_neg hbad)
        have hx0 : ¬ ix < 0 := by omega
        have hy0 : ¬ iy < 0 := by omega
        clear HST hbad
        obtain ⟨bt, hbt⟩ : ∃ bt, bt = UInt8.ofNat (ix.toNat * 16 + iy.toNat) := ⟨_, rfl⟩
        have hor := or_hex (a := ix) (b := iy) ⟨by omega, by omega⟩ ⟨by omega, by omega⟩
        have hyy : Hid (eByte wr (fun b => b < wr.heap.size ∧ u5.ownBlock ≠ some b) (fun j => [Value.int .u8 (bits BinOp.or IntKind.i64 (ix * 16) iy % 256)][j]?) bt) := by
          show some _ = some _
          rw [hor, hbt]
        have hLm : bs.length + 1 ≤ maxLen := by unfold maxLen; omega
        have hLs : (bs.length + 1) * 1 ≤ lim := by unfold lim; omega
        have hbb := HF.out.size
        rw [← hbt] at hgood
        clear hor hbt
        go_wp2_with (at_builtin; refine wpList_app1 rfl _ _ 22 rfl w.heap.size 5 (bV 0) 1 Tryz.underlying22 infoByte rfl (by decide) sByte wr (Below.drew (frAlloc _ _)) _ bs rfl HO.out wr.heap.size [.int .u8 (bits BinOp.or IntKind.i64 (ix * 16) iy % 256)] 5 (0, 0) rfl (heap_d (heap_new rfl)) rfl (by simp [Value.oneCell']) _ hyy.out hLm hLs w.heap.size w HF.out (Nat.le_refl _) hbb ?_)
        intro v' w7 HO7 HF7
        go_wp2_with fail
        go_roundw
        case rel => exact ⟨k + 1, bs ++ [bt], by omega, by simp [hbl], by go_num, HO7, HF7, hgood.out.trans (by cases hexR (m.drop (2 * (k + 1))) <;> simp)⟩
        case measure => simp [intOf]; omega
    · have hk' : 2 * k = m.length := by omega
      have hfin : Hid (hexR m = some bs) := HR.out.trans (by rw [List.drop_eq_nil_of_le (by omega)]; simp [hexR])
      obtain ⟨A5, c5, rfl, hc5, hs5⟩ := HO.out.nwByt
      have HC5 := Lib.hid hc5
      have HS5 := Lib.hid hs5
      clear HR HO hc5 hs5 hk'
      go_wp2_with fail
      go_ret2
      exact wb_some hfin.out HF.out HC5.out HS5.out
set_option maxRecDepth 100000 in
set_option maxHeartbeats 4000000 in
theorem noteBytes_odd (w : World) (m : List UInt8) (hm : m.length ≤ 1000000) (he : m.length % 2 = 1) :
    Calls Tryz.prog 53 #[sV (45 :: m)] w (WbPost w (hexR m)) := by
  have hsz := sV_size m
  have hpre : Lib.hasPrefix (45 :: m) [45] = true := by simp [Lib.hasPrefix]
  have htrim : Lib.trimPrefix (45 :: m) [45] = m := by simp [Lib.trimPrefix, Lib.hasPrefix]
  have hn : Hid (hexR m = none) := hexR_odd m he
  go_enter Tryz.func53, Tryz.ntmps53
  go_wp2_with fail
  refine (Tryz.strings_CutPrefix _ _ _).mono ?_
  rintro e w1 ⟨rfl, hw1⟩
  rw [hw1, show Lib.trimPrefix (⟨(45 :: m).toArray⟩ : ByteArray).data.toList (⟨#[45]⟩ : ByteArray).data.toList = m from htrim, show Lib.hasPrefix (⟨(45 :: m).toArray⟩ : ByteArray).data.toList (⟨#[45]⟩ : ByteArray).data.toList = true from hpre]
  clear hw1 w1 hpre htrim
  have t1 : (m.length : Int) % 2 = 1 := by omega
  go_wp2_with fail
  go_ret2
  exact wb_none hn.out (Below.refl _ _)
set_option maxRecDepth 100000 in
set_option maxHeartbeats 4000000 in
theorem noteBytes_bad (w : World) (l : List UInt8) (h0 : Lib.hasPrefix l [45] = false) (hn : Hid (wordR l = none)) :
    Calls Tryz.prog 53 #[sV l] w (WbPost w (wordR l)) := by
  go_enter Tryz.func53, Tryz.ntmps53
  go_wp2_with fail
  refine (Tryz.strings_CutPrefix _ _ _).mono ?_
  rintro e w1 ⟨rfl, hw1⟩
  rw [hw1, show Lib.hasPrefix (⟨l.toArray⟩ : ByteArray).data.toList (⟨#[45]⟩ : ByteArray).data.toList = false from h0]
  clear hw1 w1 h0
  go_wp2_with fail
  go_ret2
  exact wb_none hn.out (Below.refl _ _)
/-- note.bytes. -/
theorem noteBytes_any (w : World) (l : List UInt8) (hl : l.length ≤ 1000000) : Calls Tryz.prog 53 #[sV l] w (WbPost w (wordR l)) := by
  match l, hl with
  | [], _ => exact noteBytes_bad w [] rfl rfl
  | x :: m, hl =>
    by_cases hx : x = 45
    · subst hx
      have e : wordR (45 :: m) = hexR m := by simp [wordR]
      rw [e]
      simp only [List.length_cons] at hl
      rcases Nat.mod_two_eq_zero_or_one m.length with h | h
      · exact noteBytes_good w m (by omega) h
      · exact noteBytes_odd w m (by omega) h
    · exact noteBytes_bad w _ (by simp [Lib.hasPrefix, List.isPrefixOf, Ne.symm hx]) (by simp [Hid, wordR, hx])
theorem wb_out {w w' : World} {r : Option (List UInt8)} {e : Ending} (h : WbPost w r e w') : ∃ A n c, e = .returned (.tuple #[.slice A n c, .bool r.isSome]) ∧ Fr w w' ∧ ∀ b, r = some b → n = b.length ∧ (n ≤ c ∧ c ≤ maxLen) ∧ Sl 1 eByte w' (NW w.heap.size w'.heap.size) A n b := by
  cases r with
  | none => exact ⟨none, 0, 0, h.2, h.1, fun b e => by cases e⟩
  | some b =>
    obtain ⟨hf, A, c, he, hc, hs⟩ := h
    exact ⟨A, b.length, c, he, hf, fun b' e => by injection e with e; subst e; exact ⟨rfl, hc, hs⟩⟩
theorem hexR_len : ∀ {l b : List UInt8}, hexR l = some b → b.length ≤ l.length
  | l, b, h => by have := hexE_hexR h; rw [← this, hexE_length]; omega
theorem wordR_len {l b : List UInt8} (h : wordR l = some b) : b.length ≤ l.length := by
  have := wordR_some h
  rw [← this, List.length_cons, hexE_length]; omega
end Go.Proofs.YtbincgbgeccccaaGreatDoor
