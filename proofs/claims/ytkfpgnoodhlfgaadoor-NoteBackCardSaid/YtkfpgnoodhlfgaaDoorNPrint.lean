/- note.Print. Condition: the library's variables are laid. -/
import Derived.Test.YtkfpgnoodhlfgaaDoorNDig
import Derived.Test.YtkfpgnoodhlfgaaDoorNCkA
import Derived.Test.YtkfpgnoodhlfgaaDoorTextB
import Derived.Test.YtkfpgnoodhlfgaaDoorBox
set_option linter.unusedSimpArgs false
set_option linter.unusedVariables false
namespace Go.Proofs.YtkfpgnoodhlfgaaDoor
open Go.RowKit
attribute [local irreducible] wpList

theorem infoStr : (Tryd.prog.info? 9).map (fun i => (i.zero, i.size, i.bytes)) = some (some (.string ⟨#[]⟩), 1, 16) := by kernel_rfl
set_option maxRecDepth 100000 in
theorem idx11 (r : Rc) {k : Nat} (h : k < 11) : ∃ n, (recInts r)[k]? = some n ∧ ∀ W, (Instr.index 59 (.agg #[.int .i64 r.kind, .int .i64 r.place, .int .i64 r.n, .int .i64 r.try_, .int .i64 r.h.frm, .int .i64 r.h.seq, .int .i64 r.h.to, .int .i64 r.h.till, .int .i64 r.h.bytes, .int .i64 r.h.block, .int .i64 r.s.id]) (.int .i64 (k : Int))).run Tryd.prog W = .ok (.int .i64 n) W := by
  have : k = 0 ∨ k = 1 ∨ k = 2 ∨ k = 3 ∨ k = 4 ∨ k = 5 ∨ k = 6 ∨ k = 7 ∨ k = 8 ∨ k = 9 ∨ k = 10 := by omega
  rcases this with rfl | rfl | rfl | rfl | rfl | rfl | rfl | rfl | rfl | rfl | rfl <;> exact ⟨_, rfl, fun W => by kernel_rfl⟩
theorem idx2 (x y : Value) {k : Nat} (h : k < 2) : ∃ u, [x, y][k]? = some u ∧ ∀ W, (Instr.index 61 (.agg #[x, y]) (.int .i64 (k : Int))).run Tryd.prog W = .ok u W := by
  have : k = 0 ∨ k = 1 := by omega
  rcases this with rfl | rfl <;> exact ⟨_, rfl, fun W => by kernel_rfl⟩
set_option maxRecDepth 100000 in
set_option maxHeartbeats 8000000 in
theorem notePrint_any (w : World) (v : Vars w) (r : Rc) (A : Option Addr) (na ca : Nat) (B : Option Addr) (nb cb : Nat) (hw : r.wf) (hA : Byt w (LT w.heap.size) A na ca r.s.data) (hB : Byt w (LT w.heap.size) B nb cb r.cargo) :
    Calls Tryd.prog 6 #[.agg #[.int .i64 r.kind, .int .i64 r.place, .int .i64 r.n, .int .i64 r.try_, .int .i64 r.h.frm, .int .i64 r.h.seq, .int .i64 r.h.to, .int .i64 r.h.till, .int .i64 r.h.bytes, .int .i64 r.h.block, .int .i64 r.s.id, .slice A na ca, .slice B nb cb]] w fun e w' => e = .returned (.tuple #[sV (printF r).1, .int .i64 (printF r).2]) ∧ Fr w w' := by
  obtain ⟨b, hb⟩ : ∃ b, b = w.heap.size := ⟨_, rfl⟩
  obtain ⟨W1, hW1⟩ : ∃ W1, W1 = w.alloc (.cells #[.int .i64 r.kind, .int .i64 r.place, .int .i64 r.n, .int .i64 r.try_, .int .i64 r.h.frm, .int .i64 r.h.seq, .int .i64 r.h.to, .int .i64 r.h.till, .int .i64 r.h.bytes, .int .i64 r.h.block, .int .i64 r.s.id, .slice A na ca, .slice B nb cb] 31) := ⟨_, rfl⟩
  have HR1 : Hid (W1.heap[b]? = some (.cells #[.int .i64 r.kind, .int .i64 r.place, .int .i64 r.n, .int .i64 r.try_, .int .i64 r.h.frm, .int .i64 r.h.seq, .int .i64 r.h.to, .int .i64 r.h.till, .int .i64 r.h.bytes, .int .i64 r.h.block, .int .i64 r.s.id, .slice A na ca, .slice B nb cb] 31 (0, 0))) := by rw [hW1]; exact heap_new hb
  have HF1 : Hid (Fr w W1) := by rw [hW1]; exact frAlloc _ _
  have hl1 := hA.2.1
  have hl2 := hB.2.1
  obtain ⟨ck, hck⟩ : ∃ ck, ck = recCheck r := ⟨_, rfl⟩
  have CK : Hid (Calls Tryd.prog 13 #[.agg #[.int .i64 r.kind, .int .i64 r.place, .int .i64 r.n, .int .i64 r.try_, .int .i64 r.h.frm, .int .i64 r.h.seq, .int .i64 r.h.to, .int .i64 r.h.till, .int .i64 r.h.bytes, .int .i64 r.h.block, .int .i64 r.s.id, .slice A na ca, .slice B nb cb]] W1 fun e w' => e = .returned (.int .i64 ck) ∧ Fr W1 w') := by rw [hck]; exact noteCheck_any W1 r A na ca B nb cb hw hl1 hl2
  have HCK := Lib.hid hck
  have HW := Lib.hid hw
  have HA := Lib.hid hA
  have HB := Lib.hid hB
  have HV := Lib.hid v
  have hrx := HR1.out
  (obtain ⟨bx0, bx1, bx2, bx3, bx4, bx5, bx6, bx7, bx8, bx9, bx10, bx11, bx12⟩ := box13_ hrx)
  clear hrx hck hw hA hB v
  go_enter Tryd.func6, Tryd.ntmps6
  go_wp2_with fail
  rw [← hW1, ← hb]
  have HBW := Lib.hid hb
  clear hW1 hb
  (with_reducible refine (CK.out).mono ?_)
  rintro e w2 ⟨rfl, hf2⟩
  have HR2 := Lib.hid (blk_go HR1.out hf2)
  have HF2 : Hid (Fr w w2) := HF1.out.trans hf2
  clear hf2 CK bx0 bx1 bx2 bx3 bx4 bx5 bx6 bx7 bx8 bx9 bx10 bx11 bx12 HR1 HF1
  by_cases h1 : ck = 0
  case neg =>
    have t1 : (ck != 0) = true := by simp [h1]
    have hp : Hid (printF r = ([], ck)) := by unfold printF; rw [← HCK.out, if_pos h1]; exact rfl
    clear h1
    go_wp2_with fail
    go_ret2
    rw [hp.out]
    exact ⟨rfl, HF2.out⟩
  case pos =>
  have t1 : (ck != 0) = false := by simp [h1]
  have hrl := recCheck_len (HCK.out.symm.trans h1)
  have hrt := recText_len (HCK.out.symm.trans h1)
  have hp : Hid (printF r = (recText r, 0)) := by unfold printF; rw [← HCK.out, if_neg (by simp [h1])]; exact rfl
  have HRT := Lib.hid hrt
  have hrx := HR2.out
  (obtain ⟨bx0, bx1, bx2, bx3, bx4, bx5, bx6, bx7, bx8, bx9, bx10, bx11, bx12⟩ := box13_ hrx)
  clear h1 hrx hrt
  go_upto_region 6 with fail
  obtain ⟨W3, hW3⟩ : ∃ W3, W3 = w2.alloc (.cells #[.int .i64 r.h.frm, .int .i64 r.h.seq, .int .i64 r.h.to, .int .i64 r.h.till, .int .i64 r.h.bytes, .int .i64 r.h.block] 25) := ⟨_, rfl⟩
  obtain ⟨z, hz⟩ : ∃ z, z = w2.heap.size := ⟨_, rfl⟩
  have hf3 : Fr w2 W3 := by rw [hW3]; exact frAlloc _ _
  have HF3 : Hid (Fr w W3) := HF2.out.trans hf3
  have hrx := blk_go HR2.out hf3
  have hzx : W3.heap[z]? = some (.cells #[.int .i64 r.h.frm, .int .i64 r.h.seq, .int .i64 r.h.to, .int .i64 r.h.till, .int .i64 r.h.bytes, .int .i64 r.h.block] 25 (0, 0)) := by rw [hW3]; exact heap_new hz
  rw [← hW3, ← hz]
  clear hW3 hz hf3 bx0 bx1 bx2 bx3 bx4 bx5 bx6 bx7 bx8 bx9 bx10 bx11 bx12 HF2 HR2
  have HR3 := Lib.hid hrx
  (obtain ⟨bx0, bx1, bx2, bx3, bx4, bx5, bx6, bx7, bx8, bx9, bx10, bx11, bx12⟩ := box13_ hrx)
  (obtain ⟨bz0, bz1, bz2, bz3, bz4, bz5⟩ := box6_ hzx)
  clear hrx hzx
  go_wp2_with fail
  clear bx0 bx1 bx2 bx3 bx4 bx5 bx6 bx7 bx8 bx9 bx10 bx11 bx12 bz0 bz1 bz2 bz3 bz4 bz5 t1
  obtain ⟨WL, hWL⟩ : ∃ WL, WL = (recInts r).map Lib.itoa := ⟨_, rfl⟩
  have hwl : WL.length = 11 := by rw [hWL, List.length_map]; rfl
  have HWL := Lib.hid hWL
  clear hWL
  go_loopw [6, 44] (fun s6 s44 wr => ∃ k : Nat, k ≤ 11 ∧ s44 = .int .i64 k ∧ Hid (Own 1 eStr wr W3.heap.size 9 s6 (WL.take k)) ∧ Hid (Fr W3 wr)) (fun _ i _ => 11 - (intOf i).toNat)
  case atStart => exact ⟨0, Nat.zero_le _, rfl, Own.nil, Below.refl _ _⟩
  case round =>
    obtain ⟨k, hk, rfl, HO, HF⟩ := hrel
    by_cases hlt : k < 11
    · obtain ⟨nk, hnk, hidx⟩ := idx11 r hlt
      have hwn := recInts_wf HW.out nk (List.mem_of_getElem? hnk)
      have IT : Hid (Calls Tryd.prog 26 #[.int .i64 nk] wr fun e w' => e = .returned (sV (Lib.itoa nk)) ∧ Fr wr w') := itoa_any wr (HV.out.go (HF3.out.trans HF.out)) nk hwn
      obtain ⟨LK, hLK⟩ : ∃ LK, LK = WL.take k := ⟨_, rfl⟩
      obtain ⟨TK, hTK⟩ : ∃ TK, TK = Lib.itoa nk := ⟨_, rfl⟩
      rw [← hLK] at HO
      rw [← hTK] at IT
      have hll : LK.length + 1 ≤ 12 := by rw [hLK, List.length_take]; omega
      have hLm : LK.length + 1 ≤ maxLen := by unfold maxLen; omega
      have hLs : (LK.length + 1) * 16 ≤ lim := by unfold lim; omega
      have e1 : LK ++ [TK] = WL.take (k + 1) := by
        rw [List.take_add_one, HWL.out, List.getElem?_map, hnk, hLK, HWL.out, hTK]; rfl
      have HE1 := Lib.hid e1
      clear hnk hwn hll e1 hLK hTK
      go_wp2_with fail
      (with_reducible refine (IT.out).mono ?_)
      rintro e w5 ⟨rfl, hf5⟩
      have HO5 : Hid (Own 1 eStr w5 W3.heap.size 9 u6 LK) := HO.out.fr sStr hf5
      have HF5 : Hid (Fr W3 w5) := HF.out.trans hf5
      have HFw5 : Hid (Fr w w5) := HF3.out.trans HF5.out
      have hyy : Hid (eStr w5 (fun b => b < w5.heap.size ∧ u6.ownBlock ≠ some b) (fun j => [sV TK][j]?) TK) := rfl
      have h63 : W3.heap.size ≤ w5.heap.size := HF5.out.size
      clear hf5 HO HF IT
      go_wp2_with (at_builtin; refine wpList_app1 rfl _ _ 58 rfl W3.heap.size 9 (.string ⟨#[]⟩) 16 Tryd.underlying58 infoStr rfl (by decide) sStr w5 (frAlloc _ _) _ LK rfl HO5.out w5.heap.size [sV TK] 9 (0, 0) rfl (heap_new rfl) rfl (by simp [Value.oneCell']) TK hyy.out hLm hLs W3.heap.size W3 HF5.out (Nat.le_refl _) h63 ?_)
      intro v' w7 HO7 HF7
      rw [HE1.out] at HO7
      go_wp2_with fail
      go_roundw
      case rel => exact ⟨k + 1, by omega, by go_num, HO7, HF7⟩
      case measure => simp [intOf]; omega
    · have hk' : k = 11 := by omega
      have HO' : Hid (Own 1 eStr wr W3.heap.size 9 u6 WL) := by
        have := HO.out
        rw [hk', List.take_of_length_le (by omega)] at this
        exact this
      have hrx := blk_go HR3.out HF.out
      (obtain ⟨bx0, bx1, bx2, bx3, bx4, bx5, bx6, bx7, bx8, bx9, bx10, bx11, bx12⟩ := box13_ hrx)
      clear hrx hk' HO
      go_wp2_with fail
      clear bx0 bx1 bx2 bx3 bx4 bx5 bx6 bx7 bx8 bx9 bx10 bx11 bx12
      obtain ⟨W6, hW6⟩ : ∃ W6, W6 = wr := ⟨_, rfl⟩
      rw [← hW6] at HO' HF
      rw [← hW6]
      clear hW6
      obtain ⟨WD, hWD⟩ : ∃ WD, WD = [45 :: hexE r.s.data, 45 :: hexE r.cargo] := ⟨_, rfl⟩
      have hwd : WD.length = 2 := by rw [hWD]; rfl
      have HWD := Lib.hid hWD
      clear hWD
      go_loopw [6, 59] (fun s6 s59 wx => ∃ k : Nat, k ≤ 2 ∧ s59 = .int .i64 k ∧ Hid (Own 1 eStr wx W3.heap.size 9 s6 (WL ++ WD.take k)) ∧ Hid (Fr W3 wx)) (fun _ i _ => 2 - (intOf i).toNat)
      case atStart => exact ⟨0, Nat.zero_le _, rfl, by simpa using HO', HF⟩
      case round =>
        obtain ⟨k, hk, rfl, HO, HF⟩ := hrel
        clear HO'
        by_cases hlt : k < 2
        · obtain ⟨Ak, nk, ck', dk, hidx, hbk, hnk, hdk⟩ : ∃ Ak nk ck' dk, (∀ W, (Instr.index 61 (.agg #[.slice A na ca, .slice B nb cb]) (.int .i64 (k : Int))).run Tryd.prog W = .ok (.slice Ak nk ck') W) ∧ Sl 1 eByte w (LT w.heap.size) Ak nk dk ∧ nk ≤ 1000000 ∧ WD[k]? = some (45 :: hexE dk) := by
            rw [HWD.out]
            have : k = 0 ∨ k = 1 := by omega
            rcases this with rfl | rfl
            · exact ⟨A, na, ca, r.s.data, fun W => by kernel_rfl, HA.out.2, by omega, rfl⟩
            · exact ⟨B, nb, cb, r.cargo, fun W => by kernel_rfl, HB.out.2, by omega, rfl⟩
          have DG : Hid (Calls Tryd.prog 27 #[.slice Ak nk ck'] wr fun e w' => e = .returned (sV (hexE dk)) ∧ Fr wr w') := noteDigits_any wr Ak nk ck' dk (hbk.go sByte (HF3.out.trans HF.out)) hnk
          obtain ⟨LK, hLK⟩ : ∃ LK, LK = WL ++ WD.take k := ⟨_, rfl⟩
          obtain ⟨TK, hTK⟩ : ∃ TK, TK = hexE dk := ⟨_, rfl⟩
          rw [← hLK] at HO
          rw [← hTK] at DG hdk
          have hll : LK.length + 1 ≤ 14 := by rw [hLK, List.length_append, List.length_take]; omega
          have hLm : LK.length + 1 ≤ maxLen := by unfold maxLen; omega
          have hLs : (LK.length + 1) * 16 ≤ lim := by unfold lim; omega
          have e1 : LK ++ [45 :: TK] = WL ++ WD.take (k + 1) := by
            rw [List.take_add_one, hdk, hLK, List.append_assoc]; rfl
          have hcat : (9223372036854775807 < 1 + TK.length) = False := by
            have h1 := hbk.1
            have h2 := hexE_length dk
            rw [← hTK] at h2
            exact eq_false (by omega)
          have HE1 := Lib.hid e1
          clear hbk hnk hdk hll e1 hLK hTK
          go_wp2_with fail
          (with_reducible refine (DG.out).mono ?_)
          rintro e w5 ⟨rfl, hf5⟩
          have HO5 : Hid (Own 1 eStr w5 W3.heap.size 9 u6 LK) := HO.out.fr sStr hf5
          have HF5 : Hid (Fr W3 w5) := HF.out.trans hf5
          have hyy : Hid (eStr w5 (fun b => b < w5.heap.size ∧ u6.ownBlock ≠ some b) (fun j => [Value.string (⟨#[45]⟩ ++ ⟨TK.toArray⟩)][j]?) (45 :: TK)) := by
            show some _ = some _
            rw [str_cons]
          have h63 : W3.heap.size ≤ w5.heap.size := HF5.out.size
          clear hf5 HO HF DG
          go_wp2_with (at_builtin; refine wpList_app1 rfl _ _ 58 rfl W3.heap.size 9 (.string ⟨#[]⟩) 16 Tryd.underlying58 infoStr rfl (by decide) sStr w5 (frAlloc _ _) u6 LK rfl HO5.out w5.heap.size [Value.string (⟨#[45]⟩ ++ ⟨TK.toArray⟩)] 9 (0, 0) rfl (heap_new rfl) rfl (by simp [Value.oneCell']) (45 :: TK) hyy.out hLm hLs W3.heap.size W3 HF5.out (Nat.le_refl _) h63 ?_)
          intro v' w7 HO7 HF7
          rw [HE1.out] at HO7
          go_wp2_with fail
          go_roundw
          case rel => exact ⟨k + 1, by omega, by go_num, HO7, HF7⟩
          case measure => simp [intOf]; omega
        · have hk' : k = 2 := by omega
          have ew : WL ++ WD.take k = recWords r := by rw [hk', List.take_of_length_le (by omega), HWL.out, HWD.out]; rfl
          have HO2 := HO.out
          rw [ew] at HO2
          have hrw : (recWords r).length = 13 := rfl
          obtain ⟨A5, c5, e5, ⟨hc5, hm5⟩, hs5⟩ := HO2.slC sStr (by decide)
          have hsp := HO2.spot e5
          have JN : Hid (Calls Tryd.prog 28 #[.slice A5 13 c5, sV [32]] wr fun e w' => e = .returned (sV (recText r)) ∧ Fr wr w') := join_any wr A5 13 c5 (recWords r) hs5 (by omega) (by omega) (by omega) hsp HRT.out
          rw [hrw] at e5
          subst e5
          clear hk' ew HO HO2 hrw hc5 hm5 hs5 hsp
          go_wp2_with fail
          (with_reducible refine (JN.out).mono ?_)
          rintro e w8 ⟨rfl, hf8⟩
          have HF8 : Hid (Fr w w8) := (HF3.out.trans HF.out).trans hf8
          clear hf8 JN
          go_wp2_with fail
          go_ret2
          rw [hp.out]
          exact ⟨rfl, HF8.out⟩
end Go.Proofs.YtkfpgnoodhlfgaaDoor
