/- note.digits: bytes as two digits each. No condition but the length. -/
import Derived.Test.YtbincgbgeccccaaGreatDoorStr
import Derived.Test.YtbincgbgeccccaaGreatDoorChg
set_option linter.unusedSimpArgs false
set_option linter.unusedVariables false
namespace Go.Proofs.YtbincgbgeccccaaGreatDoor
open Go.RowKit
attribute [local irreducible] wpList

def bytesV (l : List UInt8) : List Value := l.map bV
theorem byteCells_eq (l : List UInt8) : Lib.byteCells l = bytesV l := rfl
theorem six_get (i : Nat) (h : i < (⟨#[48, 49, 50, 51, 52, 53, 54, 55, 56, 57, 97, 98, 99, 100, 101, 102]⟩ : ByteArray).size) : (⟨#[48, 49, 50, 51, 52, 53, 54, 55, 56, 57, 97, 98, 99, 100, 101, 102]⟩ : ByteArray)[i] = hexD i := by
  have hi : i < 16 := h
  have key : ∀ j : Fin 16, (⟨#[48, 49, 50, 51, 52, 53, 54, 55, 56, 57, 97, 98, 99, 100, 101, 102]⟩ : ByteArray)[j.val]'j.isLt = hexD j.val := by decide +kernel
  exact key ⟨i, hi⟩
theorem hexE_snoc : ∀ (l : List UInt8) (x : UInt8), hexE (l ++ [x]) = hexE l ++ [hexD (x.toNat / 16), hexD (x.toNat % 16)]
  | [], x => rfl
  | y :: l, x => by rw [List.cons_append, hexE, hexE_snoc l x, hexE]; rfl
theorem bytesV_append (a b : List UInt8) : bytesV (a ++ b) = bytesV a ++ bytesV b := List.map_append
theorem bytesV_length (a : List UInt8) : (bytesV a).length = a.length := List.length_map _
set_option maxRecDepth 100000 in
set_option maxHeartbeats 4000000 in
theorem noteDigits_any (w : World) (A : Option Addr) (n c : Nat) (l : List UInt8) (h : Sl 1 eByte w (LT w.heap.size) A n l) (hn : n ≤ 1000000) :
    Calls Tryz.prog 29 #[.slice A n c] w fun e w' => e = .returned (sV (hexE l)) ∧ Fr w w' := by
  have hl : l.length = n := h.1
  have H := Lib.hid h
  clear h
  go_enter Tryz.func29, Tryz.ntmps29
  obtain ⟨b, hb⟩ : ∃ b, b = w.heap.size := ⟨_, rfl⟩
  obtain ⟨W1, hW1⟩ : ∃ W1, W1 = w.alloc (.cells #[.pointer none, .slice none 0 0] 83) := ⟨_, rfl⟩
  have HB1 : Hid (Lib.IsBuilder 83 5 b b [] W1) := .inl ⟨Nat.le_refl _, .slice none 0 0, by rw [hW1]; exact heap_new hb, World.ownsRow_nil _ _ _ _, by simp [Value.ownBlock]⟩
  have HF1 : Hid (Fr w W1) := by rw [hW1]; exact frAlloc _ _
  have hb1 : b ≤ W1.heap.size := by rw [hb]; exact HF1.out.size
  have HWB := Lib.hid hb
  go_wp2_with fail
  rw [← hW1, ← hb]
  clear hb hW1
  go_loopw [8] (fun s8 wr => ∃ k : Nat, k ≤ n ∧ s8 = .int .i64 k ∧ Hid (Lib.IsBuilder 83 5 b b (bytesV (hexE (l.take k))) wr) ∧ Hid (Fr w wr) ∧ b ≤ wr.heap.size) (fun i _ => n - (intOf i).toNat)
  case atStart => exact ⟨0, Nat.zero_le _, rfl, HB1, HF1, hb1⟩
  case round =>
    obtain ⟨k, hk, rfl, HB, HF, hbr⟩ := hrel
    clear HB1 HF1 hb1
    by_cases hlt : k < n
    · obtain ⟨ad, rfl, hE⟩ := (H.out.go sByte HF.out).els (by omega)
      obtain ⟨x, hx, hcx⟩ := hE.byte hlt
      clear hE
      have f1 : x.toNat / 16 < 16 := by have := x.toNat_lt; omega
      have f2 : x.toNat % 16 < 16 := by omega
      have f3 : ((x.toNat : Int) / 16) < 16 := by omega
      have f4 : ((x.toNat : Int) % 16) < 16 := by omega
      have f5 : 0 ≤ ((x.toNat : Int) / 16) := by omega
      have f6 : 0 ≤ ((x.toNat : Int) % 16) := by omega
      have hlk : (hexE (l.take k)).length ≤ 2000000 := by rw [hexE_length, List.length_take]; omega
      have HLK := Lib.hid hlk
      clear hlk
      go_wp2_with fail
      refine (Tryz.Builder_WriteByte b b (bytesV (hexE (l.take k))) _ wr HB.out (by have := HLK.out; rw [bytesV_length]; omega) hbr).mono ?_
      rintro e w2 ⟨rfl, hB2, hf2⟩
      rw [six_get] at hB2
      have HF2 : Hid (Fr w w2) := Below.trans HF.out (by rw [← HWB.out]; exact hf2)
      have hb2 : b ≤ w2.heap.size := Nat.le_trans hbr hf2.size
      have HB2 := Lib.hid hB2
      clear hB2 hf2 HB HF hbr
      go_wp2_with fail
      refine (Tryz.Builder_WriteByte b b (bytesV (hexE (l.take k)) ++ [.int .u8 ((hexD (x.toNat / 16)).toNat : Int)]) _ w2 (.inr HB2.out) (by have := HLK.out; simp only [List.length_append, List.length_singleton, bytesV_length]; omega) hb2).mono ?_
      rintro e w3 ⟨rfl, hB3, hf3⟩
      rw [six_get] at hB3
      have HF3 : Hid (Fr w w3) := Below.trans HF2.out (by rw [← HWB.out]; exact hf3)
      have hb3 : b ≤ w3.heap.size := Nat.le_trans hb2 hf3.size
      have e3 : bytesV (hexE (l.take k)) ++ [.int .u8 ((hexD (x.toNat / 16)).toNat : Int)] ++ [.int .u8 ((hexD (x.toNat % 16)).toNat : Int)] = bytesV (hexE (l.take (k + 1))) := by
        rw [List.take_add_one, hx, Option.toList_some, hexE_snoc, bytesV_append, List.append_assoc]; rfl
      rw [e3] at hB3
      have HB3 := Lib.hid hB3
      clear hB3 hf3 HB2 HF2 hb2 e3
      go_wp2_with fail
      go_roundw
      case rel => exact ⟨k + 1, by omega, by go_num, .inr HB3.out, HF3, hb3⟩
      case measure => simp [intOf]; omega
    · have hk' : k = n := by omega
      have HB' : Hid (Lib.IsBuilder 83 5 b b (Lib.byteCells (hexE l)) wr) := by
        have := HB.out
        rw [hk', List.take_of_length_le (by omega)] at this
        exact this
      clear hk' HB
      go_wp2_with fail
      refine (Tryz.Builder_String_any b b (hexE l) wr HB'.out hbr).mono ?_
      rintro e w2 ⟨rfl, hf2⟩
      have HF2 : Hid (Fr w w2) := Below.trans HF.out (by rw [← HWB.out]; exact hf2)
      clear hf2
      go_wp2_with fail
      go_ret
      exact ⟨rfl, HF2.out⟩
end Go.Proofs.YtbincgbgeccccaaGreatDoor
