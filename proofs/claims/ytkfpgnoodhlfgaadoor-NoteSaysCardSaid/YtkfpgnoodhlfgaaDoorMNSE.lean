/- NoteBack: what is printed is read, what is read is printed as it was. Condition: the library's variables are laid. -/
import Derived.Test.YtkfpgnoodhlfgaaDoorNDig
import Derived.Test.YtkfpgnoodhlfgaaDoorNCkA
import Derived.Test.YtkfpgnoodhlfgaaDoorTextB
import Derived.Test.YtkfpgnoodhlfgaaDoorBox
import Derived.Test.YtkfpgnoodhlfgaaDoorNoteP
import Derived.Test.YtkfpgnoodhlfgaaDoorEq
import Derived.Test.YtkfpgnoodhlfgaaDoorEqHd
import Derived.Deep.DeepCutAuto
import Derived.Deep.Cut
import Derived.Test.YtkfpgnoodhlfgaaDoorNParse
import Derived.Test.YtkfpgnoodhlfgaaDoorNHead
import Derived.Test.YtkfpgnoodhlfgaaDoorTextC
set_option linter.unusedSimpArgs false
set_option linter.unusedVariables false
namespace Go.Proofs.YtkfpgnoodhlfgaaDoor
open Go.RowKit
attribute [local irreducible] wpList

theorem infoStr : (Tryd.prog.info? 9).map (fun i => (i.zero, i.size, i.bytes)) = some (some (.string ⟨#[]⟩), 1, 16) := by kernel_rfl
set_option maxRecDepth 100000 in
theorem idx11 (r : Rc) {k : Nat} (h : k < 11) : ∃ n, (recInts r)[k]? = some n ∧ ∀ W, (Instr.index 59 (.agg #[.int .i64 r.kind, .int .i64 r.place, .int .i64 r.n, .int .i64 r.try_, .int .i64 r.h.frm, .int .i64 r.h.seq, .int .i64 r.h.to, .int .i64 r.h.till, .int .i64 r.h.bytes, .int .i64 r.h.block, .int .i64 r.s.id]) (.int .i64 (k : Int))).run Tryd.prog W = .ok (.int .i64 n) W := by
  have : k = 0 ∨ k = 1 ∨ k = 2 ∨ k = 3 ∨ k = 4 ∨ k = 5 ∨ k = 6 ∨ k = 7 ∨ k = 8 ∨ k = 9 ∨ k = 10 := by omega
  rcases this with rfl | rfl | rfl | rfl | rfl | rfl | rfl | rfl | rfl | rfl | rfl <;> exact ⟨_, rfl, fun W => by kernel_rfl⟩
theorem idx2 (x y : Value) {k : Nat} (h : k < 2) : ∃ u, [x, y][k]? = some u ∧ ∀ W, (Instr.index 61 (.agg #[x, y]) (.int .i64 (k : Int))).run Tryd.prog W = .ok u W := by
  have : k = 0 ∨ k = 1 := by omega
  rcases this with rfl | rfl <;> exact ⟨_, rfl, fun W => by kernel_rfl⟩
set_option maxRecDepth 100000 in
set_option maxHeartbeats 8000000 in
theorem notePrint_any (w : World) (v : Vars w) (r : Rc) (A : Option Addr) (na ca : Nat) (B : Option Addr) (nb cb : Nat) (hw : r.wf) (hA : Byt w (LT w.heap.size) A na ca r.s.data) (hB : Byt w (LT w.heap.size) B nb cb r.cargo) :
    Calls Tryd.prog 6 #[.agg #[.int .i64 r.kind, .int .i64 r.place, .int .i64 r.n, .int .i64 r.try_, .int .i64 r.h.frm, .int .i64 r.h.seq, .int .i64 r.h.to, .int .i64 r.h.till, .int .i64 r.h.bytes, .int .i64 r.h.block, .int .i64 r.s.id, .slice A na ca, .slice B nb cb]] w fun e w' => e = .returned (.tuple #[sV (printF r).1, .int .i64 (printF r).2]) ∧ Fr w w' := by
  obtain ⟨b, hb⟩ : ∃ b, b = w.heap.size := ⟨_, rfl⟩
  obtain ⟨W1, hW1⟩ : ∃ W1, W1 = w.alloc (.cells #[.int .i64 r.kind, .int .i64 r.place, .int .i64 r.n, .int .i64 r.try_, .int .i64 r.h.frm, .int .i64 r.h.seq, .int .i64 r.h.to, .int .i64 r.h.till, .int .i64 r.h.bytes, .int .i64 r.h.block, .int .i64 r.s.id, .slice A na ca, .slice B nb cb] 31) := ⟨_, rfl⟩
  have HR1 : Hid (W1.heap[b]? = some (.cells #[.int .i64 r.kind, .int .i64 r.place, .int .i64 r.n, .int .i64 r.try_, .int .i64 r.h.frm, .int .i64 r.h.seq, .int .i64 r.h.to, .int .i64 r.h.till, .int .i64 r.h.bytes, .int .i64 r.h.block, .int .i64 r.s.id, .slice A na ca, .slice B nb cb] 31 (0, 0))) := by rw [hW1]; exact heap_new hb
  have HF1 : Hid (Fr w W1) := by rw [hW1]; exact frAlloc _ _
  have hl1 := hA.2.1
  have hl2 := hB.2.1
  obtain ⟨ck, hck⟩ : ∃ ck, ck = recCheck r := ⟨_, rfl⟩
  have CK : Hid (Calls Tryd.prog 13 #[.agg #[.int .i64 r.kind, .int .i64 r.place, .int .i64 r.n, .int .i64 r.try_, .int .i64 r.h.frm, .int .i64 r.h.seq, .int .i64 r.h.to, .int .i64 r.h.till, .int .i64 r.h.bytes, .int .i64 r.h.block, .int .i64 r.s.id, .slice A na ca, .slice B nb cb]] W1 fun e w' => e = .returned (.int .i64 ck) ∧ Fr W1 w') := by rw [hck]; exact noteCheck_any W1 r A na ca B nb cb hw hl1 hl2
  have HCK := Lib.hid hck
  have HW := Lib.hid hw
  have HA := Lib.hid hA
  have HB := Lib.hid hB
  have HV := Lib.hid v
  have hrx := HR1.out
  (obtain ⟨bx0, bx1, bx2, bx3, bx4, bx5, bx6, bx7, bx8, bx9, bx10, bx11, bx12⟩ := box13_ hrx)
  clear hrx hck hw hA hB v
  go_enter Tryd.func6, Tryd.ntmps6
  go_wp2_with fail
  rw [← hW1, ← hb]
  have HBW := Lib.hid hb
  clear hW1 hb
  (with_reducible refine (CK.out).mono ?_)
  rintro e w2 ⟨rfl, hf2⟩
  have HR2 := Lib.hid (blk_go HR1.out hf2)
  have HF2 : Hid (Fr w w2) := HF1.out.trans hf2
  clear hf2 CK bx0 bx1 bx2 bx3 bx4 bx5 bx6 bx7 bx8 bx9 bx10 bx11 bx12 HR1 HF1
  by_cases h1 : ck = 0
  case neg =>
    have t1 : (ck != 0) = true := by simp [h1]
    have hp : Hid (printF r = ([], ck)) := by unfold printF; rw [← HCK.out, if_pos h1]; exact rfl
    clear h1
    go_wp2_with fail
    go_ret2
    rw [hp.out]
    exact ⟨rfl, HF2.out⟩
  case pos =>
  have t1 : (ck != 0) = false := by simp [h1]
  have hrl := recCheck_len (HCK.out.symm.trans h1)
  have hrt := recText_len (HCK.out.symm.trans h1)
  have hp : Hid (printF r = (recText r, 0)) := by unfold printF; rw [← HCK.out, if_neg (by simp [h1])]; exact rfl
  have HRT := Lib.hid hrt
  have hrx := HR2.out
  (obtain ⟨bx0, bx1, bx2, bx3, bx4, bx5, bx6, bx7, bx8, bx9, bx10, bx11, bx12⟩ := box13_ hrx)
  clear h1 hrx hrt
  go_upto_region 6 with fail
  obtain ⟨W3, hW3⟩ : ∃ W3, W3 = w2.alloc (.cells #[.int .i64 r.h.frm, .int .i64 r.h.seq, .int .i64 r.h.to, .int .i64 r.h.till, .int .i64 r.h.bytes, .int .i64 r.h.block] 25) := ⟨_, rfl⟩
  obtain ⟨z, hz⟩ : ∃ z, z = w2.heap.size := ⟨_, rfl⟩
  have hf3 : Fr w2 W3 := by rw [hW3]; exact frAlloc _ _
  have HF3 : Hid (Fr w W3) := HF2.out.trans hf3
  have hrx := blk_go HR2.out hf3
  have hzx : W3.heap[z]? = some (.cells #[.int .i64 r.h.frm, .int .i64 r.h.seq, .int .i64 r.h.to, .int .i64 r.h.till, .int .i64 r.h.bytes, .int .i64 r.h.block] 25 (0, 0)) := by rw [hW3]; exact heap_new hz
  rw [← hW3, ← hz]
  clear hW3 hz hf3 bx0 bx1 bx2 bx3 bx4 bx5 bx6 bx7 bx8 bx9 bx10 bx11 bx12 HF2 HR2
  have HR3 := Lib.hid hrx
  (obtain ⟨bx0, bx1, bx2, bx3, bx4, bx5, bx6, bx7, bx8, bx9, bx10, bx11, bx12⟩ := box13_ hrx)
  (obtain ⟨bz0, bz1, bz2, bz3, bz4, bz5⟩ := box6_ hzx)
  clear hrx hzx
  go_wp2_with fail
  clear bx0 bx1 bx2 bx3 bx4 bx5 bx6 bx7 bx8 bx9 bx10 bx11 bx12 bz0 bz1 bz2 bz3 bz4 bz5 t1
  obtain ⟨WL, hWL⟩ : ∃ WL, WL = (recInts r).map Lib.itoa := ⟨_, rfl⟩
  have hwl : WL.length = 11 := by rw [hWL, List.length_map]; rfl
  have HWL := Lib.hid hWL
  clear hWL
  go_loopw [6, 44] (fun s6 s44 wr => ∃ k : Nat, k ≤ 11 ∧ s44 = .int .i64 k ∧ Hid (Own 1 eStr wr W3.heap.size 9 s6 (WL.take k)) ∧ Hid (Fr W3 wr)) (fun _ i _ => 11 - (intOf i).toNat)
  case atStart => exact ⟨0, Nat.zero_le _, rfl, Own.nil, Below.refl _ _⟩
  case round =>
    obtain ⟨k, hk, rfl, HO, HF⟩ := hrel
    by_cases hlt : k < 11
    · obtain ⟨nk, hnk, hidx⟩ := idx11 r hlt
      have hwn := recInts_wf HW.out nk (List.mem_of_getElem? hnk)
      have IT : Hid (Calls Tryd.prog 26 #[.int .i64 nk] wr fun e w' => e = .returned (sV (Lib.itoa nk)) ∧ Fr wr w') := itoa_any wr (HV.out.go (HF3.out.trans HF.out)) nk hwn
      obtain ⟨LK, hLK⟩ : ∃ LK, LK = WL.take k := ⟨_, rfl⟩
      obtain ⟨TK, hTK⟩ : ∃ TK, TK = Lib.itoa nk := ⟨_, rfl⟩
      rw [← hLK] at HO
      rw [← hTK] at IT
      have hll : LK.length + 1 ≤ 12 := by rw [hLK, List.length_take]; omega
      have hLm : LK.length + 1 ≤ maxLen := by unfold maxLen; omega
      have hLs : (LK.length + 1) * 16 ≤ lim := by unfold lim; omega
      have e1 : LK ++ [TK] = WL.take (k + 1) := by
        rw [List.take_add_one, HWL.out, List.getElem?_map, hnk, hLK, HWL.out, hTK]; rfl
      have HE1 := Lib.hid e1
      clear hnk hwn hll e1 hLK hTK
      go_wp2_with fail
      (with_reducible refine (IT.out).mono ?_)
      rintro e w5 ⟨rfl, hf5⟩
      have HO5 : Hid (Own 1 eStr w5 W3.heap.size 9 u6 LK) := HO.out.fr sStr hf5
      have HF5 : Hid (Fr W3 w5) := HF.out.trans hf5
      have HFw5 : Hid (Fr w w5) := HF3.out.trans HF5.out
      have hyy : Hid (eStr w5 (fun b => b < w5.heap.size ∧ u6.ownBlock ≠ some b) (fun j => [sV TK][j]?) TK) := rfl
      have h63 : W3.heap.size ≤ w5.heap.size := HF5.out.size
      clear hf5 HO HF IT
      go_wp2_with (at_builtin; refine wpList_app1 rfl _ _ 58 rfl W3.heap.size 9 (.string ⟨#[]⟩) 16 Tryd.underlying58 infoStr rfl (by decide) sStr w5 (frAlloc _ _) _ LK rfl HO5.out w5.heap.size [sV TK] 9 (0, 0) rfl (heap_new rfl) rfl (by simp [Value.oneCell']) TK hyy.out hLm hLs W3.heap.size W3 HF5.out (Nat.le_refl _) h63 ?_)
      intro v' w7 HO7 HF7
      rw [HE1.out] at HO7
      go_wp2_with fail
      go_roundw
      case rel => exact ⟨k + 1, by omega, by go_num, HO7, HF7⟩
      case measure => simp [intOf]; omega
    · have hk' : k = 11 := by omega
      have HO' : Hid (Own 1 eStr wr W3.heap.size 9 u6 WL) := by
        have := HO.out
        rw [hk', List.take_of_length_le (by omega)] at this
        exact this
      have hrx := blk_go HR3.out HF.out
      (obtain ⟨bx0, bx1, bx2, bx3, bx4, bx5, bx6, bx7, bx8, bx9, bx10, bx11, bx12⟩ := box13_ hrx)
      clear hrx hk' HO
      go_wp2_with fail
      clear bx0 bx1 bx2 bx3 bx4 bx5 bx6 bx7 bx8 bx9 bx10 bx11 bx12
      obtain ⟨W6, hW6⟩ : ∃ W6, W6 = wr := ⟨_, rfl⟩
      rw [← hW6] at HO' HF
      rw [← hW6]
      clear hW6
      obtain ⟨WD, hWD⟩ : ∃ WD, WD = [45 :: hexE r.s.data, 45 :: hexE r.cargo] := ⟨_, rfl⟩
      have hwd : WD.length = 2 := by rw [hWD]; rfl
      have HWD := Lib.hid hWD
      clear hWD
      go_loopw [6, 59] (fun s6 s59 wx => ∃ k : Nat, k ≤ 2 ∧ s59 = .int .i64 k ∧ Hid (Own 1 eStr wx W3.heap.size 9 s6 (WL ++ WD.take k)) ∧ Hid (Fr W3 wx)) (fun _ i _ => 2 - (intOf i).toNat)
      case atStart => exact ⟨0, Nat.zero_le _, rfl, by simpa using HO', HF⟩
      case round =>
        obtain ⟨k, hk, rfl, HO, HF⟩ := hrel
        clear HO'
        by_cases hlt : k < 2
        · obtain ⟨Ak, nk, ck', dk, hidx, hbk, hnk, hdk⟩ : ∃ Ak nk ck' dk, (∀ W, (Instr.index 61 (.agg #[.slice A na ca, .slice B nb cb]) (.int .i64 (k : Int))).run Tryd.prog W = .ok (.slice Ak nk ck') W) ∧ Sl 1 eByte w (LT w.heap.size) Ak nk dk ∧ nk ≤ 1000000 ∧ WD[k]? = some (45 :: hexE dk) := by
            rw [HWD.out]
            have : k = 0 ∨ k = 1 := by omega
            rcases this with rfl | rfl
            · exact ⟨A, na, ca, r.s.data, fun W => by kernel_rfl, HA.out.2, by omega, rfl⟩
            · exact ⟨B, nb, cb, r.cargo, fun W => by kernel_rfl, HB.out.2, by omega, rfl⟩
          have DG : Hid (Calls Tryd.prog 27 #[.slice Ak nk ck'] wr fun e w' => e = .returned (sV (hexE dk)) ∧ Fr wr w') := noteDigits_any wr Ak nk ck' dk (hbk.go sByte (HF3.out.trans HF.out)) hnk
          obtain ⟨LK, hLK⟩ : ∃ LK, LK = WL ++ WD.take k := ⟨_, rfl⟩
          obtain ⟨TK, hTK⟩ : ∃ TK, TK = hexE dk := ⟨_, rfl⟩
          rw [← hLK] at HO
          rw [← hTK] at DG hdk
          have hll : LK.length + 1 ≤ 14 := by rw [hLK, List.length_append, List.length_take]; omega
          have hLm : LK.length + 1 ≤ maxLen := by unfold maxLen; omega
          have hLs : (LK.length + 1) * 16 ≤ lim := by unfold lim; omega
          have e1 : LK ++ [45 :: TK] = WL ++ WD.take (k + 1) := by
            rw [List.take_add_one, hdk, hLK, List.append_assoc]; rfl
          have hcat : (9223372036854775807 < 1 + TK.length) = False := by
            have h1 := hbk.1
            have h2 := hexE_length dk
            rw [← hTK] at h2
            exact eq_false (by omega)
          have HE1 := Lib.hid e1
          clear hbk hnk hdk hll e1 hLK hTK
          go_wp2_with fail
          (with_reducible refine (DG.out).mono ?_)
          rintro e w5 ⟨rfl, hf5⟩
          have HO5 : Hid (Own 1 eStr w5 W3.heap.size 9 u6 LK) := HO.out.fr sStr hf5
          have HF5 : Hid (Fr W3 w5) := HF.out.trans hf5
          have hyy : Hid (eStr w5 (fun b => b < w5.heap.size ∧ u6.ownBlock ≠ some b) (fun j => [Value.string (⟨#[45]⟩ ++ ⟨TK.toArray⟩)][j]?) (45 :: TK)) := by
            show some _ = some _
            rw [str_cons]
          have h63 : W3.heap.size ≤ w5.heap.size := HF5.out.size
          clear hf5 HO HF DG
          go_wp2_with (at_builtin; refine wpList_app1 rfl _ _ 58 rfl W3.heap.size 9 (.string ⟨#[]⟩) 16 Tryd.underlying58 infoStr rfl (by decide) sStr w5 (frAlloc _ _) u6 LK rfl HO5.out w5.heap.size [Value.string (⟨#[45]⟩ ++ ⟨TK.toArray⟩)] 9 (0, 0) rfl (heap_new rfl) rfl (by simp [Value.oneCell']) (45 :: TK) hyy.out hLm hLs W3.heap.size W3 HF5.out (Nat.le_refl _) h63 ?_)
          intro v' w7 HO7 HF7
          rw [HE1.out] at HO7
          go_wp2_with fail
          go_roundw
          case rel => exact ⟨k + 1, by omega, by go_num, HO7, HF7⟩
          case measure => simp [intOf]; omega
        · have hk' : k = 2 := by omega
          have ew : WL ++ WD.take k = recWords r := by rw [hk', List.take_of_length_le (by omega), HWL.out, HWD.out]; rfl
          have HO2 := HO.out
          rw [ew] at HO2
          have hrw : (recWords r).length = 13 := rfl
          obtain ⟨A5, c5, e5, ⟨hc5, hm5⟩, hs5⟩ := HO2.slC sStr (by decide)
          have hsp := HO2.spot e5
          have JN : Hid (Calls Tryd.prog 28 #[.slice A5 13 c5, sV [32]] wr fun e w' => e = .returned (sV (recText r)) ∧ Fr wr w') := join_any wr A5 13 c5 (recWords r) hs5 (by omega) (by omega) (by omega) hsp HRT.out
          rw [hrw] at e5
          subst e5
          clear hk' ew HO HO2 hrw hc5 hm5 hs5 hsp
          go_wp2_with fail
          (with_reducible refine (JN.out).mono ?_)
          rintro e w8 ⟨rfl, hf8⟩
          have HF8 : Hid (Fr w w8) := (HF3.out.trans HF.out).trans hf8
          clear hf8 JN
          go_wp2_with fail
          go_ret2
          rw [hp.out]
          exact ⟨rfl, HF8.out⟩
end Go.Proofs.YtkfpgnoodhlfgaaDoor
namespace Go.Proofs.YtkfpgnoodhlfgaaDoor
open Go.RowKit
attribute [local irreducible] wpList

theorem rcV_false {x : Bool} (h : x = false) : (Ending.returned (.bool false)) = .returned (.bool x) := by rw [h]
theorem rcV_true {x : Bool} (h : x = true) : (Ending.returned (.bool true)) = .returned (.bool x) := by rw [h]
set_option maxRecDepth 100000 in
set_option maxHeartbeats 8000000 in
theorem noteSame_any (w : World) (a b : Rc) (S T : Nat → Prop) (A : Option Addr) (na ca : Nat) (A2 : Option Addr) (na2 ca2 : Nat) (B : Option Addr) (nb cb : Nat) (B2 : Option Addr) (nb2 cb2 : Nat) (hA : Byt w (LT w.heap.size) A na ca a.s.data) (hA2 : Byt w (LT w.heap.size) A2 na2 ca2 a.cargo) (hB : Byt w (LT w.heap.size) B nb cb b.s.data) (hB2 : Byt w (LT w.heap.size) B2 nb2 cb2 b.cargo) :
    Calls Tryd.prog 8 #[.agg #[.int .i64 a.kind, .int .i64 a.place, .int .i64 a.n, .int .i64 a.try_, .int .i64 a.h.frm, .int .i64 a.h.seq, .int .i64 a.h.to, .int .i64 a.h.till, .int .i64 a.h.bytes, .int .i64 a.h.block, .int .i64 a.s.id, .slice A na ca, .slice A2 na2 ca2], .agg #[.int .i64 b.kind, .int .i64 b.place, .int .i64 b.n, .int .i64 b.try_, .int .i64 b.h.frm, .int .i64 b.h.seq, .int .i64 b.h.to, .int .i64 b.h.till, .int .i64 b.h.bytes, .int .i64 b.h.block, .int .i64 b.s.id, .slice B nb cb, .slice B2 nb2 cb2]] w fun e w' => e = .returned (.bool (decide (a = b))) ∧ Fr w w' := by
  obtain ⟨X, hX⟩ : ∃ X, X = decide (a = b) := ⟨_, rfl⟩
  rw [← hX]
  obtain ⟨W1, hW1⟩ : ∃ W1, W1 = (w.alloc (.cells #[.int .i64 a.kind, .int .i64 a.place, .int .i64 a.n, .int .i64 a.try_, .int .i64 a.h.frm, .int .i64 a.h.seq, .int .i64 a.h.to, .int .i64 a.h.till, .int .i64 a.h.bytes, .int .i64 a.h.block, .int .i64 a.s.id, .slice A na ca, .slice A2 na2 ca2] 31)).alloc (.cells #[.int .i64 b.kind, .int .i64 b.place, .int .i64 b.n, .int .i64 b.try_, .int .i64 b.h.frm, .int .i64 b.h.seq, .int .i64 b.h.to, .int .i64 b.h.till, .int .i64 b.h.bytes, .int .i64 b.h.block, .int .i64 b.s.id, .slice B nb cb, .slice B2 nb2 cb2] 31) := ⟨_, rfl⟩
  obtain ⟨p, hp⟩ : ∃ p, p = w.heap.size := ⟨_, rfl⟩
  have hp1 : W1.heap[p]? = some (.cells #[.int .i64 a.kind, .int .i64 a.place, .int .i64 a.n, .int .i64 a.try_, .int .i64 a.h.frm, .int .i64 a.h.seq, .int .i64 a.h.to, .int .i64 a.h.till, .int .i64 a.h.bytes, .int .i64 a.h.block, .int .i64 a.s.id, .slice A na ca, .slice A2 na2 ca2] 31 (0, 0)) := by rw [hW1]; exact heap_old (heap_new hp)
  have hq1 : W1.heap[p + 1]? = some (.cells #[.int .i64 b.kind, .int .i64 b.place, .int .i64 b.n, .int .i64 b.try_, .int .i64 b.h.frm, .int .i64 b.h.seq, .int .i64 b.h.to, .int .i64 b.h.till, .int .i64 b.h.bytes, .int .i64 b.h.block, .int .i64 b.s.id, .slice B nb cb, .slice B2 nb2 cb2] 31 (0, 0)) := by rw [hW1]; exact heap_new (by rw [hp]; simp)
  have HF : Hid (Fr w W1) := by rw [hW1]; exact (frAlloc _ _).trans (frAlloc _ _)
  have HQ := Lib.hid hq1
  have HP := Lib.hid hp1
  (obtain ⟨bp0, bp1, bp2, bp3, bp4, bp5, bp6, bp7, bp8, bp9, bp10, bp11, bp12⟩ := box13_ hp1)
  (obtain ⟨bq0, bq1, bq2, bq3, bq4, bq5, bq6, bq7, bq8, bq9, bq10, bq11, bq12⟩ := box13_ hq1)
  clear hp1 hq1
  have hna : na ≤ maxLen := by have := hA.1; omega
  have hna2 : na2 ≤ maxLen := by have := hA2.1; omega
  have E1 : Hid (∀ W, Fr w W → Calls Tryd.prog 30 #[.slice A na ca, .slice B nb cb] W fun e w' => e = .returned (.bool (decide (a.s.data = b.s.data))) ∧ Fr W w') := fun W hf => (equalBlock_any W _ _ A B na ca nb cb _ _ (hA.2.go sByte hf) (hB.2.go sByte hf) hna).mono fun e w' ⟨he, m, hm⟩ => ⟨he, by rw [hm]; exact frDrewN _ _⟩
  have E2 : Hid (∀ W, Fr w W → Calls Tryd.prog 31 #[.slice A2 na2 ca2, .slice B2 nb2 cb2] W fun e w' => e = .returned (.bool (decide (a.cargo = b.cargo))) ∧ Fr W w') := fun W hf => (equalBytes_any W _ _ A2 B2 na2 ca2 nb2 cb2 _ _ (hA2.2.go sByte hf) (hB2.2.go sByte hf) hna2).mono fun e w' ⟨he, m, hm⟩ => ⟨he, by rw [hm]; exact frDrewN _ _⟩
  have hne : ∀ {c : Prop}, (a = b → c) → ¬ c → Hid (X = false) := fun h1 h2 => by rw [Hid, hX]; exact decide_eq_false fun e => h2 (h1 e)
  have HXX := Lib.hid hX
  clear hX hA hA2 hB hB2 hna hna2
  go_enter Tryd.func8, Tryd.ntmps8
  go_upto_region 1 with fail
  rw [← hW1, ← hp]
  clear hW1 hp
  by_cases h1 : a.kind = b.kind
  case neg =>
    have t1 : (a.kind == b.kind) = false := by simp [h1]
    have HX := hne (c := a.kind = b.kind) (fun e => by rw [e]) h1
    clear hne
    go_wp2_with fail
    go_ret
    exact ⟨rcV_false HX.out, HF.out.trans (by (repeat' (first | exact Below.refl _ _ | refine below_drewN ?_ _ | refine Below.drew ?_ | refine frA ?_ _)))⟩
  case pos =>
  have t1 : (a.kind == b.kind) = true := by simp [h1]
  by_cases h2 : a.place = b.place
  case neg =>
    have t2 : (a.place == b.place) = false := by simp [h2]
    have HX := hne (c := a.place = b.place) (fun e => by rw [e]) h2
    clear hne
    go_wp2_with fail
    go_ret
    exact ⟨rcV_false HX.out, HF.out.trans (by (repeat' (first | exact Below.refl _ _ | refine below_drewN ?_ _ | refine Below.drew ?_ | refine frA ?_ _)))⟩
  case pos =>
  have t2 : (a.place == b.place) = true := by simp [h2]
  by_cases h3 : a.n = b.n
  case neg =>
    have t3 : (a.n == b.n) = false := by simp [h3]
    have HX := hne (c := a.n = b.n) (fun e => by rw [e]) h3
    clear hne
    go_wp2_with fail
    go_ret
    exact ⟨rcV_false HX.out, HF.out.trans (by (repeat' (first | exact Below.refl _ _ | refine below_drewN ?_ _ | refine Below.drew ?_ | refine frA ?_ _)))⟩
  case pos =>
  have t3 : (a.n == b.n) = true := by simp [h3]
  by_cases h4 : a.try_ = b.try_
  case neg =>
    have t4 : (a.try_ == b.try_) = false := by simp [h4]
    have HX := hne (c := a.try_ = b.try_) (fun e => by rw [e]) h4
    clear hne
    go_wp2_with fail
    go_ret
    exact ⟨rcV_false HX.out, HF.out.trans (by (repeat' (first | exact Below.refl _ _ | refine below_drewN ?_ _ | refine Below.drew ?_ | refine frA ?_ _)))⟩
  case pos =>
  have t4 : (a.try_ == b.try_) = true := by simp [h4]
  by_cases h5 : a.h = b.h
  case neg =>
    have hq := fun V => (eqHd a.h b.h V).trans (by rw [decide_eq_false h5])
    have HX := hne (c := a.h = b.h) (fun e => by rw [e]) h5
    have HH := Lib.hid h5
    clear h5
    clear hne
    go_wp2_with fail
    go_ret
    exact ⟨rcV_false HX.out, HF.out.trans (by (repeat' (first | exact Below.refl _ _ | refine below_drewN ?_ _ | refine Below.drew ?_ | refine frA ?_ _)))⟩
  case pos =>
  have hq := fun V => (eqHd a.h b.h V).trans (by rw [decide_eq_true h5])
  have HH := Lib.hid h5
  clear h5
  by_cases h6 : a.s.id = b.s.id
  case neg =>
    have t6 : (a.s.id == b.s.id) = false := by simp [h6]
    have HX := hne (c := a.s.id = b.s.id) (fun e => by rw [e]) h6
    clear hne
    go_wp2_with fail
    go_ret
    exact ⟨rcV_false HX.out, HF.out.trans (by (repeat' (first | exact Below.refl _ _ | refine below_drewN ?_ _ | refine Below.drew ?_ | refine frA ?_ _)))⟩
  case pos =>
  have t6 : (a.s.id == b.s.id) = true := by simp [h6]
  obtain ⟨d1, hd1⟩ : ∃ d1, d1 = decide (a.s.data = b.s.data) := ⟨_, rfl⟩
  rw [← hd1] at E1
  obtain ⟨d2, hd2⟩ : ∃ d2, d2 = decide (a.cargo = b.cargo) := ⟨_, rfl⟩
  rw [← hd2] at E2
  have HALL : Hid (X = (d1 && d2)) := by
    rw [Hid, HXX.out, hd1, hd2]
    obtain ⟨_, _, _, _, _, ⟨_, _⟩, _⟩ := a
    obtain ⟨_, _, _, _, _, ⟨_, _⟩, _⟩ := b
    have h5 := HH.out
    simp only at h1 h2 h3 h4 h5 h6
    subst h1 h2 h3 h4 h5 h6
    simp
  have H1 := Lib.hid h1
  have H2 := Lib.hid h2
  have H3 := Lib.hid h3
  have H4 := Lib.hid h4
  have H6 := Lib.hid h6
  clear h1 h2 h3 h4 h6 hne hd1 hd2
  go_wp2_with fail
  (with_reducible refine (E1.out _ HF.out).mono ?_)
  rintro e w2 ⟨rfl, hf2⟩
  have HF2 : Hid (Fr w w2) := HF.out.trans hf2
  have hq2 := blk_go HQ.out hf2
  have hp2 := blk_go HP.out hf2
  clear hf2 bp0 bp1 bp2 bp3 bp4 bp5 bp6 bp7 bp8 bp9 bp10 bp11 bp12 bq0 bq1 bq2 bq3 bq4 bq5 bq6 bq7 bq8 bq9 bq10 bq11 bq12
  (obtain ⟨bp0, bp1, bp2, bp3, bp4, bp5, bp6, bp7, bp8, bp9, bp10, bp11, bp12⟩ := box13_ hp2)
  (obtain ⟨bq0, bq1, bq2, bq3, bq4, bq5, bq6, bq7, bq8, bq9, bq10, bq11, bq12⟩ := box13_ hq2)
  clear hp2 hq2
  cases d1 with
  | false =>
    go_wp2_with fail
    go_ret
    exact ⟨rcV_false HALL.out, HF2.out⟩
  | true =>
    go_wp2_with fail
    (with_reducible refine (E2.out _ HF2.out).mono ?_)
    rintro e w3 ⟨rfl, hf3⟩
    have HF3 : Hid (Fr w w3) := HF2.out.trans hf3
    clear hf3
    go_wp2_with fail
    go_ret
    exact ⟨by rw [HALL.out]; simp, HF3.out⟩
end Go.Proofs.YtkfpgnoodhlfgaaDoor
namespace Go.Proofs.YtkfpgnoodhlfgaaDoor
open Go.RowKit
attribute [local irreducible] wpList
def lh0 : Hd := ⟨1, 0, 2, 50, 2, 1⟩
set_option maxRecDepth 100000 in
theorem lawHead_any (w : World) : Calls Tryd.prog 29 #[] w fun e w' => e = .returned (.agg #[.int .i64 1, .int .i64 0, .int .i64 2, .int .i64 50, .int .i64 2, .int .i64 1]) ∧ Fr w w' := by
  go_enter Tryd.func29, Tryd.ntmps29
  go_wp2_with fail
  refine bodyPost_ret (v := .agg #[.int .i64 1, .int .i64 0, .int .i64 2, .int .i64 50, .int .i64 2, .int .i64 1]) ?_ rfl ?_
  · simp [results, Tryd.results29, go_sem]
  · exact ⟨rfl, by (repeat' (first | exact Below.refl _ _ | refine below_drewN ?_ _ | refine Below.drew ?_ | refine frA ?_ _))⟩
end Go.Proofs.YtkfpgnoodhlfgaaDoor
namespace Go.Proofs.YtkfpgnoodhlfgaaDoor
open Go.RowKit
attribute [local irreducible] wpList

def lr0 : Rc := ⟨2, 0, 0, 0, lh0, ⟨3, [10]⟩, []⟩
def lt0 : List UInt8 := [50, 32, 48, 32, 48, 32, 48, 32, 49, 32, 48, 32, 50, 32, 53, 48, 32, 50, 32, 49, 32, 51, 32, 45, 48, 97, 32, 45]
theorem lr0_check : recCheck lr0 = 0 := by decide +kernel
theorem lr0_text : recText lr0 = lt0 := by decide +kernel
theorem lr0_print : printF lr0 = (lt0, 0) := by unfold printF; rw [if_neg (by simp [lr0_check]), lr0_text]
theorem lr0_parse : parseF lt0 = (lr0, 0) := by unfold parseF; rw [if_neg (by decide), ← lr0_text]; exact read_print lr0_check
theorem lh0_check : hdCheck lh0 = 0 := by decide +kernel
set_option maxRecDepth 100000 in
set_option maxHeartbeats 8000000 in
theorem lined_any (w : World) (v : Vars w) : Calls Tryd.prog 7 #[] w fun e w' => e = .returned (.bool true) ∧ Fr w w' := by
  have HV := Lib.hid v
  clear v
  go_enter Tryd.func7, Tryd.ntmps7
  go_wp2_with fail
  (with_reducible refine (lawHead_any _).mono ?_)
  rintro e w1 ⟨rfl, hf1⟩
  have HF1 := Lib.hid hf1
  clear hf1
  go_upto_region 2 with fail
  obtain ⟨b, hb⟩ : ∃ b, b = w1.heap.size := ⟨_, rfl⟩
  obtain ⟨z, hz⟩ : ∃ z, z = w1.heap.size + 1 := ⟨_, rfl⟩
  rw [← hz, ← hb]
  obtain ⟨W2, hW2⟩ : ∃ W2, W2 = (w1.alloc (.cells #[.int .u8 10] 5)).alloc (.cells #[.int .i64 2, .int .i64 0, .int .i64 0, .int .i64 0, .int .i64 1, .int .i64 0, .int .i64 2, .int .i64 50, .int .i64 2, .int .i64 1, .int .i64 3, .slice (some ⟨b, 0, none⟩) 1 1, .slice none 0 0] 31) := ⟨_, rfl⟩
  rw [← hW2]
  have hd2 : W2.heap[b]? = some (.cells #[.int .u8 10] 5 (0, 0)) := by rw [hW2]; exact heap_old (heap_new hb)
  have hz2 : W2.heap[z]? = some (.cells #[.int .i64 2, .int .i64 0, .int .i64 0, .int .i64 0, .int .i64 1, .int .i64 0, .int .i64 2, .int .i64 50, .int .i64 2, .int .i64 1, .int .i64 3, .slice (some ⟨b, 0, none⟩) 1 1, .slice none 0 0] 31 (0, 0)) := by rw [hW2]; exact heap_new (by rw [hz]; simp)
  have HF2 : Hid (Fr w W2) := by rw [hW2]; exact (HF1.out.trans (frAlloc _ _)).trans (frAlloc _ _)
  have HB1 : Hid (Byt W2 (LT W2.heap.size) (some ⟨b, 0, none⟩) 1 1 [10]) := ⟨⟨by unfold lim; omega, by omega, by unfold maxLen; omega⟩, Sl.litBytes hd2 (blk_LT hd2) rfl rfl⟩
  have HZ2 := Lib.hid hz2
  have CP : Hid (Calls Tryd.prog 6 #[.agg #[.int .i64 2, .int .i64 0, .int .i64 0, .int .i64 0, .int .i64 1, .int .i64 0, .int .i64 2, .int .i64 50, .int .i64 2, .int .i64 1, .int .i64 3, .slice (some ⟨b, 0, none⟩) 1 1, .slice none 0 0]] W2 fun e w' => e = .returned (.tuple #[sV lt0, .int .i64 0]) ∧ Fr W2 w') := by
    have := notePrint_any W2 (HV.out.go HF2.out) lr0 (some ⟨b, 0, none⟩) 1 1 none 0 0 (recCheck_wf lr0_check) HB1.out byt_nil
    rw [lr0_print] at this
    exact this
  have CQ : Hid (∀ W, Fr w W → Calls Tryd.prog 9 #[sV lt0] W fun e w' => ∃ B n c B2 n2 c2, e = .returned (.tuple #[.agg #[.int .i64 2, .int .i64 0, .int .i64 0, .int .i64 0, .int .i64 1, .int .i64 0, .int .i64 2, .int .i64 50, .int .i64 2, .int .i64 1, .int .i64 3, .slice B n c, .slice B2 n2 c2], .int .i64 0]) ∧ Byt w' (LT w'.heap.size) B n c [10] ∧ Byt w' (LT w'.heap.size) B2 n2 c2 [] ∧ Fr W w') := fun W hf => by
    have := noteParse_any W (HV.out.go hf) lt0 (by unfold lim; decide)
    rw [lr0_parse] at this
    refine this.mono fun e w' h => ?_
    obtain ⟨B, n, c, B2, n2, c2, he, _, h1, h2, h3⟩ := h
    exact ⟨B, n, c, B2, n2, c2, he, ⟨h1.1, h1.2.nw sByte⟩, ⟨h2.1, h2.2.nw sByte⟩, h3⟩
  (obtain ⟨bz0, bz1, bz2, bz3, bz4, bz5, bz6, bz7, bz8, bz9, bz10, bz11, bz12⟩ := box13_ hz2)
  clear hb hz hW2 hd2 hz2
  go_wp2_with fail
  (with_reducible refine (CP.out).mono ?_)
  rintro e w3 ⟨rfl, hf3⟩
  have HF3 : Hid (Fr w w3) := HF2.out.trans hf3
  have HZ3 := Lib.hid (blk_go HZ2.out hf3)
  have HB3 : Hid (Byt w3 (LT w3.heap.size) (some ⟨b, 0, none⟩) 1 1 [10]) := HB1.out.go hf3
  clear hf3 CP HF2 HZ2 HB1 bz0 bz1 bz2 bz3 bz4 bz5 bz6 bz7 bz8 bz9 bz10 bz11 bz12
  go_wp2_with fail
  (with_reducible refine (CQ.out _ HF3.out).mono ?_)
  rintro e w4 ⟨B, n, c, B2, n2, c2, rfl, hb1, hb2, hf4⟩
  have HF4 : Hid (Fr w w4) := HF3.out.trans hf4
  have HZ4 := Lib.hid (blk_go HZ3.out hf4)
  have HB4 : Hid (Byt w4 (LT w4.heap.size) (some ⟨b, 0, none⟩) 1 1 [10]) := HB3.out.go hf4
  have HC4 := Lib.hid hb1
  have HD4 := Lib.hid hb2
  have hzl : z < w4.heap.size := (Array.getElem?_eq_some_iff.1 HZ4.out).1
  clear hb1 hb2 hf4 HF3 HZ3 HB3 CQ
  go_upto_region 4 with fail
  obtain ⟨y, hy⟩ : ∃ y, y = w4.heap.size := ⟨_, rfl⟩
  obtain ⟨W5, hW5⟩ : ∃ W5, W5 = w4.alloc (.cells #[.int .i64 2, .int .i64 0, .int .i64 0, .int .i64 0, .int .i64 1, .int .i64 0, .int .i64 2, .int .i64 50, .int .i64 2, .int .i64 1, .int .i64 3, .slice B n c, .slice B2 n2 c2] 31) := ⟨_, rfl⟩
  rw [← hW5, ← hy]
  have hy5 : W5.heap[y]? = some (.cells #[.int .i64 2, .int .i64 0, .int .i64 0, .int .i64 0, .int .i64 1, .int .i64 0, .int .i64 2, .int .i64 50, .int .i64 2, .int .i64 1, .int .i64 3, .slice B n c, .slice B2 n2 c2] 31 (0, 0)) := by rw [hW5]; exact heap_new hy
  have hf5 : Fr w4 W5 := by rw [hW5]; exact frAlloc _ _
  have hz5 := blk_go HZ4.out hf5
  have HF5 : Hid (Fr w W5) := HF4.out.trans hf5
  have CS : Hid (Calls Tryd.prog 8 #[.agg #[.int .i64 2, .int .i64 0, .int .i64 0, .int .i64 0, .int .i64 1, .int .i64 0, .int .i64 2, .int .i64 50, .int .i64 2, .int .i64 1, .int .i64 3, .slice (some ⟨b, 0, none⟩) 1 1, .slice none 0 0], .agg #[.int .i64 2, .int .i64 0, .int .i64 0, .int .i64 0, .int .i64 1, .int .i64 0, .int .i64 2, .int .i64 50, .int .i64 2, .int .i64 1, .int .i64 3, .slice B n c, .slice B2 n2 c2]] W5 fun e w' => e = .returned (.bool true) ∧ Fr W5 w') := by
    have := noteSame_any W5 lr0 lr0 (LT W5.heap.size) (LT W5.heap.size) (some ⟨b, 0, none⟩) 1 1 none 0 0 B n c B2 n2 c2 (HB4.out.go hf5) byt_nil (HC4.out.go hf5) (HD4.out.go hf5)
    rw [decide_eq_true (rfl : lr0 = lr0)] at this
    exact this
  have te : (lt0 == [50, 32, 48, 32, 48, 32, 48, 32, 49, 32, 48, 32, 50, 32, 53, 48, 32, 50, 32, 49, 32, 51, 32, 45, 48, 97, 32, 45]) = true := rfl
  (obtain ⟨bz0, bz1, bz2, bz3, bz4, bz5, bz6, bz7, bz8, bz9, bz10, bz11, bz12⟩ := box13_ hz5)
  (obtain ⟨by0, by1, by2, by3, by4, by5, by6, by7, by8, by9, by10, by11, by12⟩ := box13_ hy5)
  clear hy hW5 hy5 hf5 hz5 HB4 HC4 HD4 HZ4
  go_wp2_with fail
  (with_reducible refine (CS.out).mono ?_)
  rintro e w6 ⟨rfl, hf6⟩
  have HF6 : Hid (Fr w w6) := HF5.out.trans hf6
  clear hf6 CS bz0 bz1 bz2 bz3 bz4 bz5 bz6 bz7 bz8 bz9 bz10 bz11 bz12 by0 by1 by2 by3 by4 by5 by6 by7 by8 by9 by10 by11 by12
  go_wp2_with fail
  (with_reducible refine (lawHead_any _).mono ?_)
  rintro e w7 ⟨rfl, hf7⟩
  have HF7 : Hid (Fr w w7) := HF6.out.trans hf7
  clear hf7
  have CH : Hid (Calls Tryd.prog 11 #[.agg #[.int .i64 1, .int .i64 0, .int .i64 2, .int .i64 50, .int .i64 2, .int .i64 1]] w7 fun e w' => e = .returned (.int .i64 0) ∧ Fr w7 w') := by
    have := noteHead_any w7 lh0 (by unfold Hd.wf; decide)
    rw [lh0_check] at this
    exact this
  go_wp2_with fail
  (with_reducible refine (CH.out).mono ?_)
  rintro e w8 ⟨rfl, hf8⟩
  have HF8 : Hid (Fr w w8) := HF7.out.trans hf8
  clear hf8
  go_wp2_with fail
  go_ret
  exact ⟨rfl, HF8.out⟩
end Go.Proofs.YtkfpgnoodhlfgaaDoor
namespace Go.Proofs.YtkfpgnoodhlfgaaDoor
open Go.RowKit
attribute [local irreducible] wpList

theorem printF_cases (r : Rc) : (recCheck r ≠ 0 ∧ printF r = ([], recCheck r)) ∨ (recCheck r = 0 ∧ printF r = (recText r, 0)) := by
  unfold printF
  by_cases h : recCheck r = 0
  · exact .inr ⟨h, by rw [if_neg (by simp [h])]⟩
  · exact .inl ⟨h, if_pos h⟩
theorem parse_print {r : Rc} (h : recCheck r = 0) : parseF (recText r) = (r, 0) := by
  unfold parseF; rw [if_neg (by have := recText_len4 h; omega)]; exact read_print h
theorem print_parse {s : List UInt8} {r : Rc} (h : parseF s = (r, 0)) : printF r = (s, 0) := by
  unfold parseF at h
  split at h
  · simp only [Prod.mk.injEq] at h; exact absurd h.2 (by decide)
  · obtain ⟨h1, h2⟩ := print_read h
    unfold printF
    rw [if_neg (by simp [h2]), h1]
/-- note.Parse, its record told by its cells. -/
theorem parse_out {w w' : World} {x : Rc} {xe : Int} {e : Ending} (h : RPost w (x, xe) e w') : ∃ B n c B2 n2 c2, e = .returned (.tuple #[.agg #[.int .i64 x.kind, .int .i64 x.place, .int .i64 x.n, .int .i64 x.try_, .int .i64 x.h.frm, .int .i64 x.h.seq, .int .i64 x.h.to, .int .i64 x.h.till, .int .i64 x.h.bytes, .int .i64 x.h.block, .int .i64 x.s.id, .slice B n c, .slice B2 n2 c2], .int .i64 xe]) ∧ x.wf ∧ Byt w' (LT w'.heap.size) B n c x.s.data ∧ Byt w' (LT w'.heap.size) B2 n2 c2 x.cargo ∧ Fr w w' := by
  obtain ⟨B, n, c, B2, n2, c2, he, hw, h1, h2, h3⟩ := h
  exact ⟨B, n, c, B2, n2, c2, he, hw, ⟨h1.1, h1.2.nw sByte⟩, ⟨h2.1, h2.2.nw sByte⟩, h3⟩
set_option maxRecDepth 100000 in
set_option maxHeartbeats 16000000 in
theorem noteBack_law (w : World) (v : Vars w) (r : Rc) (A : Option Addr) (na ca : Nat) (A2 : Option Addr) (na2 ca2 : Nat) (hr : r.wf) (hA : Byt w (LT w.heap.size) A na ca r.s.data) (hA2 : Byt w (LT w.heap.size) A2 na2 ca2 r.cargo) (q : Rc) (B : Option Addr) (nb cb : Nat) (B2 : Option Addr) (nb2 cb2 : Nat) (hq : q.wf) (hB : Byt w (LT w.heap.size) B nb cb q.s.data) (hB2 : Byt w (LT w.heap.size) B2 nb2 cb2 q.cargo) (s : List UInt8) (hs : s.length ≤ lim) :
    Calls Tryd.prog 3 #[.agg #[.int .i64 r.kind, .int .i64 r.place, .int .i64 r.n, .int .i64 r.try_, .int .i64 r.h.frm, .int .i64 r.h.seq, .int .i64 r.h.to, .int .i64 r.h.till, .int .i64 r.h.bytes, .int .i64 r.h.block, .int .i64 r.s.id, .slice A na ca, .slice A2 na2 ca2], .agg #[.int .i64 q.kind, .int .i64 q.place, .int .i64 q.n, .int .i64 q.try_, .int .i64 q.h.frm, .int .i64 q.h.seq, .int .i64 q.h.to, .int .i64 q.h.till, .int .i64 q.h.bytes, .int .i64 q.h.block, .int .i64 q.s.id, .slice B nb cb, .slice B2 nb2 cb2], sV s] w fun e w' => e = .returned (.bool true) ∧ Fr w w' := by
  obtain ⟨W1, hW1⟩ : ∃ W1, W1 = (w.alloc (.cells #[.int .i64 r.kind, .int .i64 r.place, .int .i64 r.n, .int .i64 r.try_, .int .i64 r.h.frm, .int .i64 r.h.seq, .int .i64 r.h.to, .int .i64 r.h.till, .int .i64 r.h.bytes, .int .i64 r.h.block, .int .i64 r.s.id, .slice A na ca, .slice A2 na2 ca2] 31)).alloc (.cells #[.int .i64 q.kind, .int .i64 q.place, .int .i64 q.n, .int .i64 q.try_, .int .i64 q.h.frm, .int .i64 q.h.seq, .int .i64 q.h.to, .int .i64 q.h.till, .int .i64 q.h.bytes, .int .i64 q.h.block, .int .i64 q.s.id, .slice B nb cb, .slice B2 nb2 cb2] 31) := ⟨_, rfl⟩
  obtain ⟨p, hp⟩ : ∃ p, p = w.heap.size := ⟨_, rfl⟩
  obtain ⟨z, hz⟩ : ∃ z, z = w.heap.size + 1 := ⟨_, rfl⟩
  have hp1 : W1.heap[p]? = some (.cells #[.int .i64 r.kind, .int .i64 r.place, .int .i64 r.n, .int .i64 r.try_, .int .i64 r.h.frm, .int .i64 r.h.seq, .int .i64 r.h.to, .int .i64 r.h.till, .int .i64 r.h.bytes, .int .i64 r.h.block, .int .i64 r.s.id, .slice A na ca, .slice A2 na2 ca2] 31 (0, 0)) := by rw [hW1]; exact heap_old (heap_new hp)
  have hz1 : W1.heap[z]? = some (.cells #[.int .i64 q.kind, .int .i64 q.place, .int .i64 q.n, .int .i64 q.try_, .int .i64 q.h.frm, .int .i64 q.h.seq, .int .i64 q.h.to, .int .i64 q.h.till, .int .i64 q.h.bytes, .int .i64 q.h.block, .int .i64 q.s.id, .slice B nb cb, .slice B2 nb2 cb2] 31 (0, 0)) := by rw [hW1]; exact heap_new (by rw [hz]; simp)
  have HF1 : Hid (Fr w W1) := by rw [hW1]; exact (frAlloc _ _).trans (frAlloc _ _)
  have HP1 := Lib.hid hp1
  have HZ1 := Lib.hid hz1
  obtain ⟨tr, er, hpr⟩ : ∃ tr er, printF r = (tr, er) := ⟨_, _, rfl⟩
  obtain ⟨tq, eq, hpq⟩ : ∃ tq eq, printF q = (tq, eq) := ⟨_, _, rfl⟩
  have CR : Hid (∀ W, Fr w W → Calls Tryd.prog 6 #[.agg #[.int .i64 r.kind, .int .i64 r.place, .int .i64 r.n, .int .i64 r.try_, .int .i64 r.h.frm, .int .i64 r.h.seq, .int .i64 r.h.to, .int .i64 r.h.till, .int .i64 r.h.bytes, .int .i64 r.h.block, .int .i64 r.s.id, .slice A na ca, .slice A2 na2 ca2]] W fun e w' => e = .returned (.tuple #[sV tr, .int .i64 er]) ∧ Fr W w') := fun W hf => by
    have := notePrint_any W (v.go hf) r A na ca A2 na2 ca2 hr (hA.go hf) (hA2.go hf)
    rw [hpr] at this
    exact this
  have CQ : Hid (∀ W, Fr w W → Calls Tryd.prog 6 #[.agg #[.int .i64 q.kind, .int .i64 q.place, .int .i64 q.n, .int .i64 q.try_, .int .i64 q.h.frm, .int .i64 q.h.seq, .int .i64 q.h.to, .int .i64 q.h.till, .int .i64 q.h.bytes, .int .i64 q.h.block, .int .i64 q.s.id, .slice B nb cb, .slice B2 nb2 cb2]] W fun e w' => e = .returned (.tuple #[sV tq, .int .i64 eq]) ∧ Fr W w') := fun W hf => by
    have := notePrint_any W (v.go hf) q B nb cb B2 nb2 cb2 hq (hB.go hf) (hB2.go hf)
    rw [hpq] at this
    exact this
  have CS : Hid (∀ W, Fr w W → Calls Tryd.prog 8 #[.agg #[.int .i64 r.kind, .int .i64 r.place, .int .i64 r.n, .int .i64 r.try_, .int .i64 r.h.frm, .int .i64 r.h.seq, .int .i64 r.h.to, .int .i64 r.h.till, .int .i64 r.h.bytes, .int .i64 r.h.block, .int .i64 r.s.id, .slice A na ca, .slice A2 na2 ca2], .agg #[.int .i64 q.kind, .int .i64 q.place, .int .i64 q.n, .int .i64 q.try_, .int .i64 q.h.frm, .int .i64 q.h.seq, .int .i64 q.h.to, .int .i64 q.h.till, .int .i64 q.h.bytes, .int .i64 q.h.block, .int .i64 q.s.id, .slice B nb cb, .slice B2 nb2 cb2]] W fun e w' => e = .returned (.bool (decide (r = q))) ∧ Fr W w') := fun W hf => noteSame_any W r q (LT W.heap.size) (LT W.heap.size) A na ca A2 na2 ca2 B nb cb B2 nb2 cb2 (hA.go hf) (hA2.go hf) (hB.go hf) (hB2.go hf)
  have HPR := Lib.hid hpr
  have HPQ := Lib.hid hpq
  have HV := Lib.hid v
  have HA := Lib.hid hA
  have HA2 := Lib.hid hA2
  have HS := Lib.hid hs
  clear hpr hpq v hA hA2 hB hB2 hr hq hs
  (obtain ⟨bp0, bp1, bp2, bp3, bp4, bp5, bp6, bp7, bp8, bp9, bp10, bp11, bp12⟩ := box13_ hp1)
  (obtain ⟨bz0, bz1, bz2, bz3, bz4, bz5, bz6, bz7, bz8, bz9, bz10, bz11, bz12⟩ := box13_ hz1)
  clear hp1 hz1
  go_enter Tryd.func3, Tryd.ntmps3
  go_upto_region 1 with fail
  rw [← hW1, ← hz, ← hp]
  clear hW1 hz hp
  go_wp2_with fail
  (with_reducible refine (CR.out _ HF1.out).mono ?_)
  rintro e w2 ⟨rfl, hf2⟩
  have HF2 : Hid (Fr w w2) := HF1.out.trans hf2
  have HP2 := Lib.hid (blk_go HP1.out hf2)
  have HZ2 := Lib.hid (blk_go HZ1.out hf2)
  have hpx := HP2.out
  have hzx := HZ2.out
  clear hf2 HP1 HZ1 HF1 CR bp0 bp1 bp2 bp3 bp4 bp5 bp6 bp7 bp8 bp9 bp10 bp11 bp12 bz0 bz1 bz2 bz3 bz4 bz5 bz6 bz7 bz8 bz9 bz10 bz11 bz12
  (obtain ⟨bp0, bp1, bp2, bp3, bp4, bp5, bp6, bp7, bp8, bp9, bp10, bp11, bp12⟩ := box13_ hpx)
  (obtain ⟨bz0, bz1, bz2, bz3, bz4, bz5, bz6, bz7, bz8, bz9, bz10, bz11, bz12⟩ := box13_ hzx)
  clear hpx hzx
  go_wp2_with fail
  (with_reducible refine (CQ.out _ HF2.out).mono ?_)
  rintro e w3 ⟨rfl, hf3⟩
  have HF3 : Hid (Fr w w3) := HF2.out.trans hf3
  have HP3 := Lib.hid (blk_go HP2.out hf3)
  have HZ3 := Lib.hid (blk_go HZ2.out hf3)
  clear hf3 HP2 HZ2 HF2 CQ bp0 bp1 bp2 bp3 bp4 bp5 bp6 bp7 bp8 bp9 bp10 bp11 bp12 bz0 bz1 bz2 bz3 bz4 bz5 bz6 bz7 bz8 bz9 bz10 bz11 bz12
  go_upto_region 3 with fail
  go_cut [44] (fun s44 wx => s44 = .bool false ∧ Hid (Fr w3 wx))
  case first =>
    go_wp2_with fail
    (with_reducible refine (lined_any _ (HV.out.go HF3.out)).mono ?_)
    rintro e w4 ⟨rfl, hf4⟩
    have HF4 : Hid (Fr w w4) := HF3.out.trans hf4
    have HF34 := Lib.hid hf4
    have HP4 := Lib.hid (blk_go HP3.out hf4)
    have HZ4 := Lib.hid (blk_go HZ3.out hf4)
    clear hf4 HP3 HZ3
    have hpx := HP4.out
    have hzx := HZ4.out
    by_cases h1 : er = 0
    case neg =>
      have t1 : (er == 0) = false := by simp [h1]
      clear h1 hpx hzx
      go_wp2_with fail
      go_meet
      exact ⟨rfl, HF34.out⟩
    case pos =>
    have t1 : (er == 0) = true := by simp [h1]
    by_cases h2 : eq = 0
    case neg =>
      have t2 : (eq == 0) = false := by simp [h2]
      clear h1 h2 hpx hzx
      go_wp2_with fail
      go_meet
      exact ⟨rfl, HF34.out⟩
    case pos =>
    have t2 : (eq == 0) = true := by simp [h2]
    have hbq : ((tr == tq) != decide (r = q)) = false := by
      have h3 := HPR.out
      have h4 := HPQ.out
      rcases printF_cases r with ⟨a1, a2⟩ | ⟨a1, a2⟩
      · rw [a2] at h3; simp only [Prod.mk.injEq] at h3; exact absurd (h3.2.trans h1) a1
      rcases printF_cases q with ⟨b1, b2⟩ | ⟨b1, b2⟩
      · rw [b2] at h4; simp only [Prod.mk.injEq] at h4; exact absurd (h4.2.trans h2) b1
      rw [a2] at h3
      rw [b2] at h4
      simp only [Prod.mk.injEq] at h3 h4
      rw [← h3.1, ← h4.1]
      by_cases hrq : r = q
      · subst hrq; simp
      · have : (recText r == recText q) = false := by
          simp only [beq_eq_false_iff_ne]
          exact fun e => hrq (recText_inj a1 b1 e)
        rw [this, decide_eq_false hrq]; rfl
    clear h1 h2
    (obtain ⟨bp0, bp1, bp2, bp3, bp4, bp5, bp6, bp7, bp8, bp9, bp10, bp11, bp12⟩ := box13_ hpx)
    (obtain ⟨bz0, bz1, bz2, bz3, bz4, bz5, bz6, bz7, bz8, bz9, bz10, bz11, bz12⟩ := box13_ hzx)
    clear hpx hzx
    go_wp2_with fail
    (with_reducible refine (CS.out _ HF4.out).mono ?_)
    rintro e w5 ⟨rfl, hf5⟩
    clear bp0 bp1 bp2 bp3 bp4 bp5 bp6 bp7 bp8 bp9 bp10 bp11 bp12 bz0 bz1 bz2 bz3 bz4 bz5 bz6 bz7 bz8 bz9 bz10 bz11 bz12
    go_wp2_with fail
    go_meet
    exact ⟨congrArg Value.bool hbq, HF34.out.trans hf5⟩
  case rest =>
  obtain ⟨rfl, hcf⟩ := hcut
  have HF5 : Hid (Fr w wc) := HF3.out.trans hcf.out
  have HP5 := Lib.hid (blk_go HP3.out hcf.out)
  clear hcf HP3 HZ3 HF3 CS
  obtain ⟨x, xe, hps⟩ : ∃ x xe, parseF s = (x, xe) := ⟨_, _, rfl⟩
  have CX : Hid (∀ W, Fr w W → Calls Tryd.prog 9 #[sV s] W (RPost W (x, xe))) := fun W hf => by rw [← hps]; exact noteParse_any W (HV.out.go hf) s HS.out
  have HPS := Lib.hid hps
  clear hps HS
  go_upto_if 46 with fail
  go_cut [8] (fun s8 wx => s8 = .int .i64 er ∧ Hid (Fr w wx))
  case first =>
    by_cases h1 : er = 0
    case neg =>
      have t1 : (er == 0) = false := by simp [h1]
      clear h1
      go_wp2_with fail
      go_meet
      exact ⟨rfl, HF5⟩
    case pos =>
    have t1 : (er == 0) = true := by simp [h1]
    have hrt : tr = recText r ∧ recCheck r = 0 := by
      have h3 := HPR.out
      rcases printF_cases r with ⟨a1, a2⟩ | ⟨a1, a2⟩
      · rw [a2] at h3; simp only [Prod.mk.injEq] at h3; exact absurd (h3.2.trans h1) a1
      · rw [a2] at h3; simp only [Prod.mk.injEq] at h3; exact ⟨h3.1.symm, a1⟩
    have CT : Hid (Calls Tryd.prog 9 #[sV tr] wc (RPost wc (r, 0))) := by
      have := noteParse_any wc (HV.out.go HF5.out) tr (by rw [hrt.1]; have := recText_len4 hrt.2; unfold lim; omega)
      rw [hrt.1, parse_print hrt.2] at this
      rw [hrt.1]
      exact this
    clear h1 hrt
    go_wp2_with fail
    (with_reducible refine (CT.out).mono ?_)
    rintro e w6 h6
    obtain ⟨D, n, c, D2, n2, c2, rfl, _, hd, hd2, hf6⟩ := parse_out h6
    have HF6 : Hid (Fr w w6) := HF5.out.trans hf6
    have HP6 := Lib.hid (blk_go HP5.out hf6)
    have HD := Lib.hid hd
    have HD2 := Lib.hid hd2
    clear h6 hd hd2 hf6 CT HP5
    go_upto_region 7 with fail
    obtain ⟨y, hy⟩ : ∃ y, y = w6.heap.size := ⟨_, rfl⟩
    obtain ⟨W7, hW7⟩ : ∃ W7, W7 = w6.alloc (.cells #[.int .i64 r.kind, .int .i64 r.place, .int .i64 r.n, .int .i64 r.try_, .int .i64 r.h.frm, .int .i64 r.h.seq, .int .i64 r.h.to, .int .i64 r.h.till, .int .i64 r.h.bytes, .int .i64 r.h.block, .int .i64 r.s.id, .slice D n c, .slice D2 n2 c2] 31) := ⟨_, rfl⟩
    rw [← hW7, ← hy]
    have hy7 : W7.heap[y]? = some (.cells #[.int .i64 r.kind, .int .i64 r.place, .int .i64 r.n, .int .i64 r.try_, .int .i64 r.h.frm, .int .i64 r.h.seq, .int .i64 r.h.to, .int .i64 r.h.till, .int .i64 r.h.bytes, .int .i64 r.h.block, .int .i64 r.s.id, .slice D n c, .slice D2 n2 c2] 31 (0, 0)) := by rw [hW7]; exact heap_new hy
    have hf7 : Fr w6 W7 := by rw [hW7]; exact frAlloc _ _
    have hp7 := blk_go HP6.out hf7
    have HF7 : Hid (Fr w W7) := HF6.out.trans hf7
    have CU : Hid (Calls Tryd.prog 8 #[.agg #[.int .i64 r.kind, .int .i64 r.place, .int .i64 r.n, .int .i64 r.try_, .int .i64 r.h.frm, .int .i64 r.h.seq, .int .i64 r.h.to, .int .i64 r.h.till, .int .i64 r.h.bytes, .int .i64 r.h.block, .int .i64 r.s.id, .slice D n c, .slice D2 n2 c2], .agg #[.int .i64 r.kind, .int .i64 r.place, .int .i64 r.n, .int .i64 r.try_, .int .i64 r.h.frm, .int .i64 r.h.seq, .int .i64 r.h.to, .int .i64 r.h.till, .int .i64 r.h.bytes, .int .i64 r.h.block, .int .i64 r.s.id, .slice A na ca, .slice A2 na2 ca2]] W7 fun e w' => e = .returned (.bool true) ∧ Fr W7 w') := by
      have := noteSame_any W7 r r (LT W7.heap.size) (LT W7.heap.size) D n c D2 n2 c2 A na ca A2 na2 ca2 (HD.out.go hf7) (HD2.out.go hf7) (HA.out.go HF7.out) (HA2.out.go HF7.out)
      rw [decide_eq_true (rfl : r = r)] at this
      exact this
    (obtain ⟨by0, by1, by2, by3, by4, by5, by6, by7, by8, by9, by10, by11, by12⟩ := box13_ hy7)
    (obtain ⟨bp0, bp1, bp2, bp3, bp4, bp5, bp6, bp7, bp8, bp9, bp10, bp11, bp12⟩ := box13_ hp7)
    clear hy hW7 hy7 hf7 hp7 HD HD2
    go_wp2_with fail
    (with_reducible refine (CU.out).mono ?_)
    rintro e w8 ⟨rfl, hf8⟩
    have HF8 : Hid (Fr w w8) := HF7.out.trans hf8
    clear hf8 by0 by1 by2 by3 by4 by5 by6 by7 by8 by9 by10 by11 by12 bp0 bp1 bp2 bp3 bp4 bp5 bp6 bp7 bp8 bp9 bp10 bp11 bp12
    go_wp2_with fail
    go_meet
    exact ⟨rfl, HF8⟩
  case rest =>
  obtain ⟨rfl, HF9⟩ := hcut
  go_wp2_with fail
  (with_reducible refine (CX.out _ HF9.out).mono ?_)
  rintro e w6 h6
  obtain ⟨D, n, c, D2, n2, c2, rfl, hwx, hd, hd2, hf6⟩ := parse_out h6
  have HF6 : Hid (Fr w w6) := HF9.out.trans hf6
  have HD := Lib.hid hd
  have HD2 := Lib.hid hd2
  have HWX := Lib.hid hwx
  clear h6 hd hd2 hf6 CX hwx
  go_upto_region 10 with fail
  obtain ⟨y, hy⟩ : ∃ y, y = w6.heap.size := ⟨_, rfl⟩
  obtain ⟨W7, hW7⟩ : ∃ W7, W7 = w6.alloc (.cells #[.int .i64 x.kind, .int .i64 x.place, .int .i64 x.n, .int .i64 x.try_, .int .i64 x.h.frm, .int .i64 x.h.seq, .int .i64 x.h.to, .int .i64 x.h.till, .int .i64 x.h.bytes, .int .i64 x.h.block, .int .i64 x.s.id, .slice D n c, .slice D2 n2 c2] 31) := ⟨_, rfl⟩
  rw [← hW7, ← hy]
  have hy7 : W7.heap[y]? = some (.cells #[.int .i64 x.kind, .int .i64 x.place, .int .i64 x.n, .int .i64 x.try_, .int .i64 x.h.frm, .int .i64 x.h.seq, .int .i64 x.h.to, .int .i64 x.h.till, .int .i64 x.h.bytes, .int .i64 x.h.block, .int .i64 x.s.id, .slice D n c, .slice D2 n2 c2] 31 (0, 0)) := by rw [hW7]; exact heap_new hy
  have hf7 : Fr w6 W7 := by rw [hW7]; exact frAlloc _ _
  have HF7 : Hid (Fr w W7) := HF6.out.trans hf7
  have HF67 := Lib.hid hf7
  clear hy hW7 hf7
  by_cases h1 : xe = 0
  case neg =>
    have t1 : (xe != 0) = true := by simp [h1]
    clear h1 hy7
    go_wp2_with fail
    go_ret
    exact ⟨rfl, HF7.out⟩
  case pos =>
  have t1 : (xe != 0) = false := by simp [h1]
  have CY : Hid (Calls Tryd.prog 6 #[.agg #[.int .i64 x.kind, .int .i64 x.place, .int .i64 x.n, .int .i64 x.try_, .int .i64 x.h.frm, .int .i64 x.h.seq, .int .i64 x.h.to, .int .i64 x.h.till, .int .i64 x.h.bytes, .int .i64 x.h.block, .int .i64 x.s.id, .slice D n c, .slice D2 n2 c2]] W7 fun e w' => e = .returned (.tuple #[sV s, .int .i64 0]) ∧ Fr W7 w') := by
    have := notePrint_any W7 (HV.out.go HF7.out) x D n c D2 n2 c2 HWX.out (HD.out.go HF67.out) (HD2.out.go HF67.out)
    rw [print_parse (h1 ▸ HPS.out)] at this
    exact this
  (obtain ⟨by0, by1, by2, by3, by4, by5, by6, by7, by8, by9, by10, by11, by12⟩ := box13_ hy7)
  have te : (s == s) = true := by simp
  clear h1 hy7
  go_wp2_with fail
  (with_reducible refine (CY.out).mono ?_)
  rintro e w8 ⟨rfl, hf8⟩
  have HF8 : Hid (Fr w w8) := HF7.out.trans hf8
  clear hf8 by0 by1 by2 by3 by4 by5 by6 by7 by8 by9 by10 by11 by12
  go_wp2_with fail
  go_ret
  exact ⟨by simp, HF8.out⟩
theorem noteBackLaw.noteBack_any (w : World) (v : Vars w) (r : Rc) (A : Option Addr) (na ca : Nat) (A2 : Option Addr) (na2 ca2 : Nat) (hr : r.wf) (hA : Byt w (LT w.heap.size) A na ca r.s.data) (hA2 : Byt w (LT w.heap.size) A2 na2 ca2 r.cargo) (q : Rc) (B : Option Addr) (nb cb : Nat) (B2 : Option Addr) (nb2 cb2 : Nat) (hq : q.wf) (hB : Byt w (LT w.heap.size) B nb cb q.s.data) (hB2 : Byt w (LT w.heap.size) B2 nb2 cb2 q.cargo) (s : List UInt8) (hs : s.length ≤ lim) :
    Calls Tryd.prog 3 #[.agg #[.int .i64 r.kind, .int .i64 r.place, .int .i64 r.n, .int .i64 r.try_, .int .i64 r.h.frm, .int .i64 r.h.seq, .int .i64 r.h.to, .int .i64 r.h.till, .int .i64 r.h.bytes, .int .i64 r.h.block, .int .i64 r.s.id, .slice A na ca, .slice A2 na2 ca2], .agg #[.int .i64 q.kind, .int .i64 q.place, .int .i64 q.n, .int .i64 q.try_, .int .i64 q.h.frm, .int .i64 q.h.seq, .int .i64 q.h.to, .int .i64 q.h.till, .int .i64 q.h.bytes, .int .i64 q.h.block, .int .i64 q.s.id, .slice B nb cb, .slice B2 nb2 cb2], sV s] w fun e w' => e = .returned (.bool true) ∧ Fr w w' :=
  noteBack_law w v r A na ca A2 na2 ca2 hr hA hA2 q B nb cb B2 nb2 cb2 hq hB hB2 s hs
end Go.Proofs.YtkfpgnoodhlfgaaDoor
