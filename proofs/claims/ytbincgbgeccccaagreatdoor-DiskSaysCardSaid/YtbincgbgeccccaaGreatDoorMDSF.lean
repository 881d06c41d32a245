/- The reference's RecRead. Condition: the library's variables are laid. -/
import Derived.Test.YtbincgbgeccccaaGreatDoorMDSH
import Derived.Test.YtbincgbgeccccaaGreatDoorNParse
set_option linter.unusedSimpArgs false
set_option linter.unusedVariables false
namespace Go.Proofs.YtbincgbgeccccaaGreatDoor
open Go.RowKit
attribute [local irreducible] wpList

theorem infoIntR : (Tryz.prog.info? 3).map (fun i => (i.zero, i.size, i.bytes)) = some (some (.int .i64 0), 1, 8) := by kernel_rfl
set_option maxRecDepth 100000 in
set_option maxHeartbeats 8000000 in
theorem refRead_any (w : World) (v : Vars w) (l : List UInt8) (hl : l.length ≤ 60000) :
    Calls Tryz.prog 36 #[sV l] w (RPost w (recRead l)) := by
  have hsz := sV_size l
  obtain ⟨q, hq⟩ : ∃ q, q = w.heap.size := ⟨_, rfl⟩
  obtain ⟨W1, hW1⟩ : ∃ W1, W1 = w.alloc (.cells #[.int .i64 0, .int .i64 0, .int .i64 0, .int .i64 0, .int .i64 0, .int .i64 0, .int .i64 0, .int .i64 0, .int .i64 0, .int .i64 0, .int .i64 0, .slice none 0 0, .slice none 0 0] 33) := ⟨_, rfl⟩
  have HQ1 : Hid (W1.heap[q]? = some (.cells #[.int .i64 0, .int .i64 0, .int .i64 0, .int .i64 0, .int .i64 0, .int .i64 0, .int .i64 0, .int .i64 0, .int .i64 0, .int .i64 0, .int .i64 0, .slice none 0 0, .slice none 0 0] 33 (0, 0))) := by rw [hW1]; exact heap_new hq
  have HF1 : Hid (Fr w W1) := by rw [hW1]; exact frAlloc _ _
  have HQW := Lib.hid hq
  have HV := Lib.hid v
  clear v
  obtain ⟨X, hX⟩ : ∃ X, X = recRead l := ⟨_, rfl⟩
  rw [← hX]
  have hx0 : Hid (X = recRead l) := hX
  clear hX
  obtain ⟨PS, hPS⟩ : ∃ PS, PS = pieces 32 l := ⟨_, rfl⟩
  obtain ⟨ad, had⟩ : ∃ ad : Addr, ad = ⟨W1.heap.size, 0, none⟩ := ⟨_, rfl⟩
  obtain ⟨W2, hW2⟩ : ∃ W2, W2 = W1.alloc (.cells (PS.map sV).toArray 9) := ⟨_, rfl⟩
  have SP : Hid (Calls Tryz.prog 51 #[sV l, sV [32]] W1 fun e w' => e = .returned (.slice (some ad) PS.length PS.length) ∧ w' = W2) := by
    rw [hPS, had, hW2, hPS]; exact split_any W1 (HV.out.go HF1.out) 32 l (by omega)
  have HSL : Hid (Els 1 eStr W2 (LT W2.heap.size) ad PS.length PS) := by
    have hb : W2.heap[W1.heap.size]? = some (.cells (PS.map sV).toArray 9 (0, 0)) := by rw [hW2]; exact heap_new rfl
    have := Sl.litStrs (S := LT W2.heap.size) (n := PS.length) (xs := PS) hb (Array.getElem?_eq_some_iff.1 hb).1 rfl rfl
    rw [had]
    by_cases h0 : 0 < PS.length
    · obtain ⟨ad', e, h⟩ := this.els h0
      injection e with e
      rw [e]; exact h
    · exact absurd (by rw [hPS]; exact List.length_pos_iff.2 (pieces_ne 32 l)) h0
  have hpl : ∀ p ∈ PS, p.length ≤ 60000 := fun p hp => Nat.le_trans (piece_len 32 l p (by rw [← hPS]; exact hp)) (by omega)
  have HPL := Lib.hid hpl
  have HF2 : Hid (Fr w W2) := HF1.out.trans (by rw [hW2]; exact frAlloc _ _)
  have HQ2 : Hid (W2.heap[q]? = some (.cells #[.int .i64 0, .int .i64 0, .int .i64 0, .int .i64 0, .int .i64 0, .int .i64 0, .int .i64 0, .int .i64 0, .int .i64 0, .int .i64 0, .int .i64 0, .slice none 0 0, .slice none 0 0] 33 (0, 0))) := blk_go HQ1.out (by rw [hW2]; exact frAlloc _ _)
  have hq2 : q < W2.heap.size := by rw [hW2, hq]; have := HF1.out.size; simp; omega
  have HPS := Lib.hid hPS
  have hcf : ∀ (args : Array Value) (W : World), (callFunc 56 args).run Tryz.prog W = .ok (.enter 56 args) W := entersW Tryz.func56 (by kernel_rfl) (by kernel_rfl)
  clear hpl hPS had hW2 hl
  go_enter Tryz.func36, Tryz.ntmps36
  go_wp2_with fail
  rw [← hW1, ← hq]
  clear hW1 hq
  (with_reducible refine (SP.out).mono ?_)
  rintro e w2 ⟨rfl, hw2⟩
  rw [hw2]
  clear hw2 SP HQ1 HF1 w2
  by_cases h13 : PS.length = 13
  case neg =>
    have t2 : ((PS.length : Int) != 13) = true := by simp only [bne_iff_ne]; omega
    have hx : Hid (X = (Rc.zero, 1)) := hx0.out.trans (by unfold recRead; rw [← HPS.out, if_pos h13])
    clear h13
    go_upto_region 4 with fail
    have BD := refBad_any W2 1
    go_wp2_with fail
    (with_reducible refine (BD).mono ?_)
    clear BD
    rintro e wb ⟨rfl, hfb⟩
    have hqx := blk_go HQ2.out hfb
    have HFb := Lib.hid (Below.trans HF2.out (hfb.mono HF2.out.size))
    (obtain ⟨bq0, bq1, bq2, bq3, bq4, bq5, bq6, bq7, bq8, bq9, bq10, bq11, bq12⟩ := box13_ hqx)
    have y0 := blk_free (i := 0) hqx
    have y1 := blk_free (i := 1) hqx
    have y2 := blk_free (i := 2) hqx
    have y3 := blk_free (i := 3) hqx
    have y4 := blk_free (i := 4) hqx
    have y5 := blk_free (i := 5) hqx
    have y6 := blk_free (i := 6) hqx
    have y7 := blk_free (i := 7) hqx
    have y8 := blk_free (i := 8) hqx
    have y9 := blk_free (i := 9) hqx
    have y10 := blk_free (i := 10) hqx
    have y11 := blk_free (i := 11) hqx
    have y12 := blk_free (i := 12) hqx
    have lq := (Array.getElem?_eq_some_iff.1 hqx).1
    clear hqx hfb
    go_wp2_with fail
    refine bodyPost_ret (v := .tuple #[.agg #[.int .i64 0, .int .i64 0, .int .i64 0, .int .i64 0, .int .i64 0, .int .i64 0, .int .i64 0, .int .i64 0, .int .i64 0, .int .i64 0, .int .i64 0, .slice none 0 0, .slice none 0 0], .int .i64 1]) ?_ rfl (rpost_err hx.out (bel13_ HFb.out (by have := HQW.out; omega)))
    simp [results, Tryz.results36, go_sem, bq0, bq1, bq2, bq3, bq4, bq5, bq6, bq7, bq8, bq9, bq10, bq11, bq12, lq]
  case pos =>
  rw [h13]
  have HSL2 : Hid (Sl 1 eStr W2 (LT W2.heap.size) (some ad) 13 PS) := by
    have := HSL.out.sl
    rw [h13] at this
    exact this
  have H13 := Lib.hid h13
  have HX0 := Lib.hid hx0
  clear h13 HSL hx0
  go_wp2_with fail
  have hqs := (Array.getElem?_eq_some_iff.1 HQ2.out).1
  go_loopw [6, 31] (fun s6 s31 wr => ∃ (k : Nat) (vs : List Int), k ≤ 11 ∧ s31 = .int .i64 k ∧ vs.length = k ∧ Hid (intsR (PS.take k) = some vs) ∧ Hid (∀ x ∈ vs, wfI x) ∧ Hid (Own 1 eInt wr W2.heap.size 3 s6 vs) ∧ Hid (Fr W2 wr)) (fun _ i _ => 11 - (intOf i).toNat)
  case atStart => exact ⟨0, [], Nat.zero_le _, rfl, rfl, rfl, fun x hx => by simp at hx, Own.nil, Below.refl _ _⟩
  case round =>
    obtain ⟨k, vs, hk, rfl, hvl, HI, HVW, HO, HF⟩ := hrel
    have HFr : Hid (Fr w wr) := HF2.out.trans HF.out
    have HQr := Lib.hid (blk_go HQ2.out HF.out)
    by_cases hlt : k < 11
    · have hE : Els 1 eStr wr (LT W2.heap.size) ad 13 PS := by
        obtain ⟨ad', e, h⟩ := (HSL2.out.keep sStr fun x hx => HF.out.cell hx).els (by omega)
        injection e with e
        subst e; exact h
      obtain ⟨p, hp, hcp⟩ := hE.str (show k < 13 by omega)
      have hpl := HPL.out p (List.mem_of_getElem? hp)
      have HAT : Hid ((∃ n, Lib.atoiAll p = .ok n ∧ Hid (Calls Tryz.prog 57 #[sV p, .int .i64 10, .int .i64 64] wr fun e w' => Fr wr w' ∧ e = .returned (.tuple #[.int .i64 n, .nilIface]))) ∨ (intR p = none ∧ Hid (Calls Tryz.prog 57 #[sV p, .int .i64 10, .int .i64 64] wr fun e w' => Fr wr w' ∧ ∃ n t pv, e = .returned (.tuple #[.int .i64 n, .iface t pv])))) := by
        have h := pint_any wr (HV.out.go HFr.out) p (by omega)
        cases ha : Lib.atoiAll p
        case ok n => rw [ha] at h; exact .inl ⟨n, rfl, h⟩
        all_goals (rw [ha] at h; exact .inr ⟨by unfold intR; rw [ha], h⟩)
      have hpk : (PS.take 11)[k]? = some p := by rw [List.getElem?_take, if_pos hlt]; exact hp
      have HBAD : Hid (intR p = none → X = (Rc.zero, 1)) := fun h => HX0.out.trans (by
        unfold recRead
        rw [← HPS.out, if_neg (by simp [H13.out]), intsR_none hpk h])
      have HP := Lib.hid hp
      have i1 : (k : Int) < 11 := by omega
      clear hE hp hpl hpk
      rcases HAT.out with ⟨n, ha, AT⟩ | ⟨hno, AT⟩
      · clear HAT
        have hwn : wfI n := wfI.mk (Lib.atoiAll_bounds ha)
        have hint : intR p = if Lib.itoa n = p then some n else none := by unfold intR; rw [ha]
        have HINT := Lib.hid hint
        have HWN := Lib.hid hwn
        clear ha hint hwn
        go_wp2_with fail
        (with_reducible refine (AT.out).mono ?_)
        rintro e w5 ⟨hf5, rfl⟩
        have HQ5 := Lib.hid (blk_go HQr.out hf5)
        have HF5 : Hid (Fr w w5) := HFr.out.trans hf5
        have HF25 : Hid (Fr W2 w5) := HF.out.trans hf5
        have IT : Hid (Calls Tryz.prog 58 #[.int .i64 n, .int .i64 10] w5 fun e w' => e = .returned (sV (Lib.itoa n)) ∧ Fr w5 w') := fmt_any w5 (HV.out.go HF5.out) n HWN.out
        have HO5 : Hid (Own 1 eInt w5 W2.heap.size 3 u6 vs) := HO.out.fr sInt hf5
        clear hf5 AT hcp HFr HQr HO HF
        go_upto_region 10 with fail
        go_cut [47] (fun s47 wx => s47 = .bool (Lib.itoa n != p) ∧ Hid (Fr w5 wx))
        case first =>
          go_wp2_with (go_at_call 58; (with_reducible refine (IT.out).mono ?_); rintro e w6 ⟨rfl, hf6⟩)
          go_meet
          exact ⟨rfl, hf6⟩
        case rest =>
        obtain ⟨rfl, hcf6⟩ := hcut
        obtain ⟨w6, rfl⟩ : ∃ w6, w6 = wc := ⟨_, rfl⟩
        have hf6 := hcf6.out
        clear hcf6
        have HQ6 := Lib.hid (blk_go HQ5.out hf6)
        have HF6 : Hid (Fr w w6) := HF5.out.trans hf6
        have HF26 : Hid (Fr W2 w6) := HF25.out.trans hf6
        have HO6 : Hid (Own 1 eInt w6 W2.heap.size 3 u6 vs) := HO5.out.fr sInt hf6
        clear hf6 IT HQ5 HF5 HF25 HO5
        by_cases he : Lib.itoa n = p
        · have te : (Lib.itoa n != p) = false := by simp [he]
          rw [te]
          have hin : intsR (PS.take (k + 1)) = some (vs ++ [n]) := by
            rw [List.take_add_one, HP.out]
            exact intsR_snoc HI.out (HINT.out.trans (if_pos he))
          have hvw : ∀ x ∈ vs ++ [n], wfI x := fun x hx => by
            rcases List.mem_append.1 hx with hx | hx
            · exact HVW.out x hx
            · obtain rfl := List.mem_singleton.1 hx; exact HWN.out
          have hyy : Hid (eInt w6 (fun b => b < w6.heap.size ∧ u6.ownBlock ≠ some b) (fun j => [Value.int .i64 n][j]?) n) := ⟨rfl, HWN.out⟩
          have HI7 := Lib.hid hin
          have HW7 := Lib.hid hvw
          have hLm : vs.length + 1 ≤ maxLen := by unfold maxLen; omega
          have hLs : (vs.length + 1) * 8 ≤ lim := by unfold lim; omega
          have h26 := HF26.out.size
          clear he HBAD HP hin hvw HI HVW HINT HWN HQ6 HF6
          go_wp2_with (at_builtin; refine wpList_app1 rfl _ _ 74 rfl W2.heap.size 3 (.int .i64 0) 8 Tryz.underlying74 infoIntR rfl (by decide) sInt w6 (frAlloc _ _) _ vs rfl HO6.out w6.heap.size [.int .i64 n] 3 (0, 0) rfl (heap_new rfl) rfl (by simp [Value.oneCell']) n hyy.out hLm hLs W2.heap.size W2 HF26.out (Nat.le_refl _) h26 ?_)
          intro v' w7 HO7 HF7
          go_wp2_with fail
          go_roundw
          case rel => exact ⟨k + 1, vs ++ [n], by omega, by go_num, by simp [hvl], HI7, HW7, HO7, HF7⟩
          case measure => simp [intOf]; omega
        · have te : (Lib.itoa n != p) = true := by simp [he]
          rw [te]
          have hx := Lib.hid (HBAD.out (HINT.out.trans (if_neg he)))
          clear he HBAD HP HPL H13 HX0 HPS HI HVW HINT HWN HO6 HF26
          have BD := refBad_any w6 1
          go_wp2_with fail
          (with_reducible refine (BD).mono ?_)
          clear BD
          rintro e wb ⟨rfl, hfb⟩
          have hqx := blk_go HQ6.out hfb
          have HFb := Lib.hid (Below.trans HF6.out (hfb.mono HF6.out.size))
          (obtain ⟨bq0, bq1, bq2, bq3, bq4, bq5, bq6, bq7, bq8, bq9, bq10, bq11, bq12⟩ := box13_ hqx)
          have y0 := blk_free (i := 0) hqx
          have y1 := blk_free (i := 1) hqx
          have y2 := blk_free (i := 2) hqx
          have y3 := blk_free (i := 3) hqx
          have y4 := blk_free (i := 4) hqx
          have y5 := blk_free (i := 5) hqx
          have y6 := blk_free (i := 6) hqx
          have y7 := blk_free (i := 7) hqx
          have y8 := blk_free (i := 8) hqx
          have y9 := blk_free (i := 9) hqx
          have y10 := blk_free (i := 10) hqx
          have y11 := blk_free (i := 11) hqx
          have y12 := blk_free (i := 12) hqx
          have lq := (Array.getElem?_eq_some_iff.1 hqx).1
          clear hqx hfb
          go_wp2_with fail
          refine bodyPost_ret (v := .tuple #[.agg #[.int .i64 0, .int .i64 0, .int .i64 0, .int .i64 0, .int .i64 0, .int .i64 0, .int .i64 0, .int .i64 0, .int .i64 0, .int .i64 0, .int .i64 0, .slice none 0 0, .slice none 0 0], .int .i64 1]) ?_ rfl (rpost_err hx.out (bel13_ HFb.out (by have := HQW.out; omega)))
          simp [results, Tryz.results36, go_sem, bq0, bq1, bq2, bq3, bq4, bq5, bq6, bq7, bq8, bq9, bq10, bq11, bq12, lq]
      · have hx := Lib.hid (HBAD.out hno)
        clear HAT hno HBAD HP HPL H13 HX0 HPS
        go_wp2_with fail
        (with_reducible refine (AT.out).mono ?_)
        rintro e w5 ⟨hf5, n, t, pv, rfl⟩
        have HQ5 := Lib.hid (blk_go HQr.out hf5)
        have HF5 : Hid (Fr w w5) := HFr.out.trans hf5
        clear hf5 AT hcp
        have BD := refBad_any w5 1
        go_wp2_with fail
        (with_reducible refine (BD).mono ?_)
        clear BD
        rintro e wb ⟨rfl, hfb⟩
        have hqx := blk_go HQ5.out hfb
        have HFb := Lib.hid (Below.trans HF5.out (hfb.mono HF5.out.size))
        (obtain ⟨bq0, bq1, bq2, bq3, bq4, bq5, bq6, bq7, bq8, bq9, bq10, bq11, bq12⟩ := box13_ hqx)
        have y0 := blk_free (i := 0) hqx
        have y1 := blk_free (i := 1) hqx
        have y2 := blk_free (i := 2) hqx
        have y3 := blk_free (i := 3) hqx
        have y4 := blk_free (i := 4) hqx
        have y5 := blk_free (i := 5) hqx
        have y6 := blk_free (i := 6) hqx
        have y7 := blk_free (i := 7) hqx
        have y8 := blk_free (i := 8) hqx
        have y9 := blk_free (i := 9) hqx
        have y10 := blk_free (i := 10) hqx
        have y11 := blk_free (i := 11) hqx
        have y12 := blk_free (i := 12) hqx
        have lq := (Array.getElem?_eq_some_iff.1 hqx).1
        clear hqx hfb
        go_wp2_with fail
        refine bodyPost_ret (v := .tuple #[.agg #[.int .i64 0, .int .i64 0, .int .i64 0, .int .i64 0, .int .i64 0, .int .i64 0, .int .i64 0, .int .i64 0, .int .i64 0, .int .i64 0, .int .i64 0, .slice none 0 0, .slice none 0 0], .int .i64 1]) ?_ rfl (rpost_err hx.out (bel13_ HFb.out (by have := HQW.out; omega)))
        simp [results, Tryz.results36, go_sem, bq0, bq1, bq2, bq3, bq4, bq5, bq6, bq7, bq8, bq9, bq10, bq11, bq12, lq]
    · have hk' : k = 11 := by omega
      have hI : Hid (intsR (PS.take 11) = some vs) := by rw [← hk']; exact HI.out
      have hv11 : vs.length = 11 := by omega
      obtain ⟨a6, c6, rfl, hc6, hs6⟩ := HO.out.slC sInt (by decide)
      rw [hv11] at hs6
      rw [hv11]
      obtain ⟨ad6, rfl, hE6⟩ := hs6.els (by decide)
      have HE6 := Lib.hid hE6
      obtain ⟨W4, hW4⟩ : ∃ W4, W4 = wr.alloc (.cells (cv [.slice none 0 0, .slice none 0 0]) 63) := ⟨_, rfl⟩
      obtain ⟨bb, hbb⟩ : ∃ bb, bb = wr.heap.size := ⟨_, rfl⟩
      have hb4 : W4.heap[bb]? = some (.cells (cv [.slice none 0 0, .slice none 0 0]) 63 (0, 0)) := by rw [hW4]; exact heap_new hbb
      have hf4 : Fr wr W4 := by rw [hW4]; exact frAlloc _ _
      have hbase : bb < W4.heap.size := by rw [hW4, hbb]; simp
      have HB4 := Lib.hid hb4
      have HF4 : Hid (Fr w W4) := HFr.out.trans hf4
      have HF24 : Hid (Fr W2 W4) := HF.out.trans hf4
      have HQ4 := Lib.hid (blk_go HQr.out hf4)
      have HE64 : Hid (Sl 1 eInt W4 (LT bb) (some ad6) 11 vs) := by rw [hbb]; exact HE6.out.sl.keep sInt fun x hx => hf4.cell hx
      have hqb : q < bb := by rw [hbb]; exact Nat.lt_of_lt_of_le hq2 HF.out.size
      have h2b : W2.heap.size ≤ bb := by rw [hbb]; exact HF.out.size
      have hwb : w.heap.size ≤ bb := by rw [hbb]; exact HFr.out.size
      have HHI := Lib.hid hI
      clear hk' hI hs6 hE6 HE6 hc6 HO hf4 HF HFr HQr hlt HI
      go_upto_region 14 with fail
      go_upto_region 15 with fail
      rw [← hbb, show wr.alloc (.cells #[.slice none 0 0, .slice none 0 0] 63) = W4 from hW4.symm]
      clear hW4 hbb hb4
      go_wp2_with fail
      go_loopw [60] (fun s60 wx => ∃ (i : Nat) (vv : List Value) (ds : List (List UInt8)), i ≤ 2 ∧ s60 = .int .i64 i ∧ Hid (Wd PS W4.heap.size wx i vv ds) ∧ Hid (wx.heap[bb]? = some (.cells (cv vv) 63 (0, 0))) ∧ Hid (Chg (fun b => b = bb) W4 wx)) (fun i _ => 2 - (intOf i).toNat)
      case atStart => exact ⟨0, _, [], by omega, rfl, Wd.zero, HB4, Chg.refl _ _⟩
      case round =>
        obtain ⟨i, vv, ds, hi, rfl, HWD, HBB, HC⟩ := hrel
        have HFx : Hid (Fr w wr) := HC.out.fr HF4.out fun x e => by have e : x = bb := e; omega
        have HQr := Lib.hid (HC.out.blk HQ4.out (fun e => by have e : q = bb := e; omega))
        clear HB4
        by_cases hlt2 : i < 2
        · have hE : Els 1 eStr wr (LT W2.heap.size) ad 13 PS := by
            obtain ⟨ad', e, h⟩ := (((HSL2.out.keep sStr fun x hx => HF24.out.cell hx).chg sStr HC.out fun b hb => ⟨by have hb : b < W2.heap.size := hb; omega, fun e => by have e : b = bb := e; have hb : b < W2.heap.size := hb; omega⟩)).els (by omega)
            injection e with e
            subst e; exact h
          obtain ⟨p, hp, hcp⟩ := hE.str (show 11 + i < 13 by omega)
          have hpl := HPL.out p (List.mem_of_getElem? hp)
          have HBAD : Hid (wordR p = none → X = (Rc.zero, 1)) := fun h => HX0.out.trans (recRead_none HPS.out H13.out HHI.out hlt2 hp h)
          have HP := Lib.hid hp
          have i1 : (i : Int) < 2 := by omega
          have hcp2 : wr.cell? ⟨ad.block, ad.off + 11 + i, none⟩ = some (sV p) := by
            have e : ad.add (11 + i) = ⟨ad.block, ad.off + 11 + i, none⟩ := by unfold Addr.add; rw [if_neg (by omega)]; simp [Nat.add_assoc]
            rw [← e]; exact hcp
          clear hE hp hcp
          have hps := sV_size p
          go_upto_region 18 with fail
          by_cases hev : p.length % 2 = 0
          · have hx : Hid (X = (Rc.zero, 1)) := HBAD.out (wordR_even hev)
            have t1 : (((p.length : Int) % 2) == 0) = true := by simp; omega
            clear HBAD HP HPL HPS H13 HX0 HHI HWD HBB hcp2 hev
            have BD := refBad_any wr 1
            go_wp2_with fail
            (with_reducible refine (BD).mono ?_)
            clear BD
            rintro e wb ⟨rfl, hfb⟩
            have hqx := blk_go HQr.out hfb
            have HFb := Lib.hid (Below.trans HFx.out (hfb.mono HFx.out.size))
            (obtain ⟨bq0, bq1, bq2, bq3, bq4, bq5, bq6, bq7, bq8, bq9, bq10, bq11, bq12⟩ := box13_ hqx)
            have y0 := blk_free (i := 0) hqx
            have y1 := blk_free (i := 1) hqx
            have y2 := blk_free (i := 2) hqx
            have y3 := blk_free (i := 3) hqx
            have y4 := blk_free (i := 4) hqx
            have y5 := blk_free (i := 5) hqx
            have y6 := blk_free (i := 6) hqx
            have y7 := blk_free (i := 7) hqx
            have y8 := blk_free (i := 8) hqx
            have y9 := blk_free (i := 9) hqx
            have y10 := blk_free (i := 10) hqx
            have y11 := blk_free (i := 11) hqx
            have y12 := blk_free (i := 12) hqx
            have lq := (Array.getElem?_eq_some_iff.1 hqx).1
            clear hqx hfb
            go_wp2_with fail
            refine bodyPost_ret (v := .tuple #[.agg #[.int .i64 0, .int .i64 0, .int .i64 0, .int .i64 0, .int .i64 0, .int .i64 0, .int .i64 0, .int .i64 0, .int .i64 0, .int .i64 0, .int .i64 0, .slice none 0 0, .slice none 0 0], .int .i64 1]) ?_ rfl (rpost_err hx.out (bel13_ HFb.out (by have := HQW.out; omega)))
            simp [results, Tryz.results36, go_sem, bq0, bq1, bq2, bq3, bq4, bq5, bq6, bq7, bq8, bq9, bq10, bq11, bq12, lq]
          · obtain ⟨x, m, hpm⟩ : ∃ x m, p = x :: m := by
              cases p with
              | nil => exact absurd rfl hev
              | cons x m => exact ⟨x, m, rfl⟩
            have hpml : p.length = m.length + 1 := by rw [hpm]; rfl
            have hml : m.length % 2 = 0 := by omega
            have t1 : (((p.length : Int) % 2) == 0) = false := by simp only [beq_eq_false_iff_ne]; omega
            have i0 : (0 : Int) < (p.length : Int) := by omega
            have A0 : ∀ h : (0 : Nat) < (⟨p.toArray⟩ : ByteArray).size, (⟨p.toArray⟩ : ByteArray)[0] = x := fun h => str_get p 0 h x (by rw [hpm]; rfl)
            by_cases hx45 : x = 45
            case neg =>
              have hx : Hid (X = (Rc.zero, 1)) := HBAD.out (by rw [hpm]; exact wordR_sign hx45)
              have t3 : ((x.toNat : Int) != 45) = true := by
                simp only [bne_iff_ne, ne_eq]
                exact fun e => hx45 (UInt8.toNat_inj.1 (by show x.toNat = 45; omega))
              clear HBAD HP HPL HPS H13 HX0 HHI HWD HBB hcp2 hev hpm hx45
              have BD := refBad_any wr 1
              go_wp2_with fail
              (with_reducible refine (BD).mono ?_)
              clear BD
              rintro e wb ⟨rfl, hfb⟩
              have hqx := blk_go HQr.out hfb
              have HFb := Lib.hid (Below.trans HFx.out (hfb.mono HFx.out.size))
              (obtain ⟨bq0, bq1, bq2, bq3, bq4, bq5, bq6, bq7, bq8, bq9, bq10, bq11, bq12⟩ := box13_ hqx)
              have y0 := blk_free (i := 0) hqx
              have y1 := blk_free (i := 1) hqx
              have y2 := blk_free (i := 2) hqx
              have y3 := blk_free (i := 3) hqx
              have y4 := blk_free (i := 4) hqx
              have y5 := blk_free (i := 5) hqx
              have y6 := blk_free (i := 6) hqx
              have y7 := blk_free (i := 7) hqx
              have y8 := blk_free (i := 8) hqx
              have y9 := blk_free (i := 9) hqx
              have y10 := blk_free (i := 10) hqx
              have y11 := blk_free (i := 11) hqx
              have y12 := blk_free (i := 12) hqx
              have lq := (Array.getElem?_eq_some_iff.1 hqx).1
              clear hqx hfb
              go_wp2_with fail
              refine bodyPost_ret (v := .tuple #[.agg #[.int .i64 0, .int .i64 0, .int .i64 0, .int .i64 0, .int .i64 0, .int .i64 0, .int .i64 0, .int .i64 0, .int .i64 0, .int .i64 0, .int .i64 0, .slice none 0 0, .slice none 0 0], .int .i64 1]) ?_ rfl (rpost_err hx.out (bel13_ HFb.out (by have := HQW.out; omega)))
              simp [results, Tryz.results36, go_sem, bq0, bq1, bq2, bq3, bq4, bq5, bq6, bq7, bq8, bq9, bq10, bq11, bq12, lq]
            case pos =>
            have t3 : ((x.toNat : Int) != 45) = false := by rw [hx45]; rfl
            have hwm : Hid (wordR p = hexR m) := by rw [hpm, hx45]; exact wordR_ok
            have hpg : ∀ (j : Nat) (y : UInt8), m[j]? = some y → p[j + 1]? = some y := fun j y h => by rw [hpm, List.getElem?_cons_succ]; exact h
            have HPG := Lib.hid hpg
            have HPML := Lib.hid hpml
            clear hpm hx45 hev hpg hpml
            go_upto_region 21 with fail
            obtain ⟨Wi, rfl⟩ : ∃ Wi, Wi = wr := ⟨_, rfl⟩
            have hvi0 : vv[i]? = some (.slice none 0 0) := HWD.out.2.2.2 i (Nat.le_refl _) hlt2
            have hbi : bb < Wi.heap.size := Nat.lt_of_lt_of_le hbase HC.out.size
            have HB0 : Hid (Wi.heap[bb]? = some (.cells (cv (vv.set i (.slice none 0 0))) 63 (0, 0))) := by rw [set_self_ hvi0]; exact HBB.out
            have HR0 : Hid (hexR m = (match hexR (m.drop (2 * 0)) with | none => none | some r => some ([] ++ r))) := by
              rw [Hid, Nat.mul_zero, List.drop_zero]; cases hexR m <;> rfl
            have hvl2 : vv.length = 2 := HWD.out.1
            have HM := Lib.hid hml
            have HPS2 := Lib.hid hps
            clear A0 t1 t3 i0 hcp2 hml hpl hvi0 hps HBB
            go_loopw [14] (fun s14 wx => ∃ (j o : Nat) (bs : List UInt8) (vi : Value), 2 * j ≤ m.length ∧ o = 2 * j + 1 ∧ bs.length = j ∧ s14 = .int .i64 o ∧ Hid (Own 1 eByte wx Wi.heap.size 5 vi bs) ∧ Hid (wx.heap[bb]? = some (.cells (cv (vv.set i vi)) 63 (0, 0))) ∧ Hid (Chg (fun b => b = bb) Wi wx) ∧ Hid (hexR m = (match hexR (m.drop (2 * j)) with | none => none | some r => some (bs ++ r)))) (fun i _ => m.length + 1 - (intOf i).toNat)
            case atStart => exact ⟨0, 1, [], .slice none 0 0, by omega, rfl, rfl, rfl, Own.nil, HB0, Chg.refl _ _, HR0⟩
            case round =>
              obtain ⟨j, o, bs, vi, hj, ho, hbl, rfl, HO, HB, HCi, HR⟩ := hrel
              have HBL := Lib.hid hbl
              clear HB0 HR0
              have HFw : Hid (Fr w wr) := (HC.out.trans HCi.out).fr HF4.out fun x e => by have e : x = bb := e; omega
              have HQw := Lib.hid (HCi.out.blk HQr.out (fun e => by have e : q = bb := e; omega))
              by_cases hlt3 : 2 * j < m.length
              · have hmm := HM.out
                have hx : m[2 * j]? = some m[2 * j] := List.getElem?_eq_getElem (by omega)
                have hy : m[2 * j + 1]? = some m[2 * j + 1] := List.getElem?_eq_getElem (by omega)
                have hd : m.drop (2 * j) = m[2 * j] :: m[2 * j + 1] :: m.drop (2 * (j + 1)) := by
                  rw [List.drop_eq_getElem_cons (by omega), List.drop_eq_getElem_cons (by omega)]; rfl
                obtain ⟨x1, hxe⟩ : ∃ x, x = m[2 * j] := ⟨_, rfl⟩
                obtain ⟨y1, hye⟩ : ∃ y, y = m[2 * j + 1] := ⟨_, rfl⟩
                rw [← hxe] at hx hd
                rw [← hye] at hy hd
                have hpx := HPG.out _ _ hx
                have hpy := HPG.out _ _ hy
                rw [← ho] at hpx
                rw [show 2 * j + 1 + 1 = o + 1 by omega] at hpy
                have hpz := HPS2.out
                have hpn := HPML.out
                have A1 : ∀ h : o < (⟨p.toArray⟩ : ByteArray).size, (⟨p.toArray⟩ : ByteArray)[o] = x1 := fun h => str_get p o h x1 hpx
                have A2 : ∀ h : o + 1 < (⟨p.toArray⟩ : ByteArray).size, (⟨p.toArray⟩ : ByteArray)[o + 1] = y1 := fun h => str_get p (o + 1) h y1 hpy
                have i1' : (o : Int) < (p.length : Int) := by omega
                have i2' : (o : Int) + 1 < (p.length : Int) := by omega
                have i3' : IntKind.i64.wrap ((o : Int) + 1) = (o : Int) + 1 := by have := i1'; rw [IntKind.wrap_i64]; have := HPL.out p (List.mem_of_getElem? HP.out); omega
                have i4' : 0 ≤ (o : Int) + 1 := by omega
                obtain ⟨ix, hix⟩ : ∃ ix, ix = Lib.indexByte sixteen x1 := ⟨_, rfl⟩
                obtain ⟨iy, hiy⟩ : ∃ iy, iy = Lib.indexByte sixteen y1 := ⟨_, rfl⟩
                have C1 : Hid (∀ W, Calls Tryz.prog 59 #[.string ⟨#[48, 49, 50, 51, 52, 53, 54, 55, 56, 57, 97, 98, 99, 100, 101, 102]⟩, .int .u8 x1.toNat] W fun e w' => e = .returned (.int .i64 ix) ∧ w' = W) := fun W => by
                  have := Tryz.strings_IndexByte ⟨#[48, 49, 50, 51, 52, 53, 54, 55, 56, 57, 97, 98, 99, 100, 101, 102]⟩ x1.toNat W
                  rw [u8_back] at this
                  rw [hix]
                  exact this
                have C2 : Hid (∀ W, Calls Tryz.prog 59 #[.string ⟨#[48, 49, 50, 51, 52, 53, 54, 55, 56, 57, 97, 98, 99, 100, 101, 102]⟩, .int .u8 y1.toNat] W fun e w' => e = .returned (.int .i64 iy) ∧ w' = W) := fun W => by
                  have := Tryz.strings_IndexByte ⟨#[48, 49, 50, 51, 52, 53, 54, 55, 56, 57, 97, 98, 99, 100, 101, 102]⟩ y1.toNat W
                  rw [u8_back] at this
                  rw [hiy]
                  exact this
                have hbx := idx_bd x1
                have hby := idx_bd y1
                rw [← hix] at hbx
                rw [← hiy] at hby
                have hstep : hexR m = if ix < 0 ∨ iy < 0 then none else (match hexR (m.drop (2 * (j + 1))) with | none => none | some r => some (bs ++ (UInt8.ofNat (ix.toNat * 16 + iy.toNat) :: r))) := by
                  rw [HR.out, hd, hexR, hix, hiy]
                  by_cases hc : Lib.indexByte sixteen x1 < 0 ∨ Lib.indexByte sixteen y1 < 0
                  · rw [if_pos hc, if_pos hc]
                  · rw [if_neg hc, if_neg hc]
                    cases hexR (m.drop (2 * (j + 1))) <;> rfl
                have HST := Lib.hid hstep
                have HOE := Lib.hid ho
                have i5' : o + 1 < p.length := by omega
                have i6' : o < p.length := by omega
                clear hx hy hd hxe hye hix hiy HR hstep hpx hpy hmm ho hpn hbl
                go_upto_region 23 with fail
                refine held_begin (n := 11) (bs := #[false, false, false, false, false, false, false, false, false, false, false]) rfl rfl (by kernel_rfl) (S := fun w' => w' = wr.drew) rfl (fun hHeld => ?_)
                ((first | refine held_sk (i := 0) ?_ | refine held_tk (i := 0) ?_); (first | refine held_sk (i := 1) ?_ | refine held_tk (i := 1) ?_); (first | refine held_sk (i := 2) ?_ | refine held_tk (i := 2) ?_); (first | refine held_sk (i := 4) ?_ | refine held_tk (i := 4) ?_); (first | refine held_sk (i := 5) ?_ | refine held_tk (i := 5) ?_); (first | refine held_sk (i := 6) ?_ | refine held_tk (i := 6) ?_); (first | refine held_sk (i := 7) ?_ | refine held_tk (i := 7) ?_))
                refine held_one (i := 3) rfl (by kernel_rfl) (fun K hK => ?_)
                go_simp
                go_at_call 59
                (with_reducible refine (C1.out _).mono ?_)
                rintro e w6 ⟨rfl, rfl⟩
                (refine held_back hK (a' := ?hA1) (l' := ?hL1) ?ha1 ?hl1 (rfl) (fun hHeld => ?hh1); (case ha1 => first | with_reducible rfl | (simp only [Act.put, hq1, hq2, hq3, Option.isNone, Bool.not_true, Bool.not_false]; (try with_reducible rfl))); (case hl1 => (simp only [Act.put, hq1, hq2, hq3, Option.isNone, Bool.not_true, Bool.not_false]; (try with_reducible rfl))); clear hK K)
                refine held_one (i := 8) rfl (by kernel_rfl) (fun K hK => ?_)
                go_simp
                go_at_call 59
                (with_reducible refine (C2.out _).mono ?_)
                rintro e w6 ⟨rfl, rfl⟩
                (refine held_back hK (a' := ?hA2) (l' := ?hL2) ?ha2 ?hl2 (rfl) (fun hHeld => ?hh2); (case ha2 => first | with_reducible rfl | (simp only [Act.put, hq1, hq2, hq3, Option.isNone, Bool.not_true, Bool.not_false]; (try with_reducible rfl))); (case hl2 => (simp only [Act.put, hq1, hq2, hq3, Option.isNone, Bool.not_true, Bool.not_false]; (try with_reducible rfl))); clear hK K)
                ((first | refine held_sk (i := 9) ?_ | refine held_tk (i := 9) ?_); (first | refine held_sk (i := 10) ?_ | refine held_tk (i := 10) ?_))
                refine wpAnyH_done (by kernel_rfl) ?_ _
                clear C1 C2 hHeld
                have HQd : Hid (wr.drew.heap[q]? = some (.cells #[.int .i64 0, .int .i64 0, .int .i64 0, .int .i64 0, .int .i64 0, .int .i64 0, .int .i64 0, .int .i64 0, .int .i64 0, .int .i64 0, .int .i64 0, .slice none 0 0, .slice none 0 0] 33 (0, 0))) := HQw.out
                have HFd : Hid (Fr w wr.drew) := HFw.out.drew
                by_cases hbad : ix < 0 ∨ iy < 0
                · have hx : Hid (X = (Rc.zero, 1)) := HBAD.out (hwm.out.trans (HST.out.trans (if_pos hbad)))
                  by_cases hx0 : ix < 0
                  · clear hbad HBAD HP HPL HPS H13 HX0 HHI HWD HST HO HB HQw HFw
                    have BD := refBad_any wr.drew 1
                    go_wp2_with fail
                    (with_reducible refine (BD).mono ?_)
                    clear BD
                    rintro e wb ⟨rfl, hfb⟩
                    have hqx := blk_go HQd.out hfb
                    have HFb := Lib.hid (Below.trans HFd.out (hfb.mono HFd.out.size))
                    (obtain ⟨bq0, bq1, bq2, bq3, bq4, bq5, bq6, bq7, bq8, bq9, bq10, bq11, bq12⟩ := box13_ hqx)
                    have y0 := blk_free (i := 0) hqx
                    have y1 := blk_free (i := 1) hqx
                    have y2 := blk_free (i := 2) hqx
                    have y3 := blk_free (i := 3) hqx
                    have y4 := blk_free (i := 4) hqx
                    have y5 := blk_free (i := 5) hqx
                    have y6 := blk_free (i := 6) hqx
                    have y7 := blk_free (i := 7) hqx
                    have y8 := blk_free (i := 8) hqx
                    have y9 := blk_free (i := 9) hqx
                    have y10 := blk_free (i := 10) hqx
                    have y11 := blk_free (i := 11) hqx
                    have y12 := blk_free (i := 12) hqx
                    have lq := (Array.getElem?_eq_some_iff.1 hqx).1
                    clear hqx hfb
                    go_wp2_with fail
                    refine bodyPost_ret (v := .tuple #[.agg #[.int .i64 0, .int .i64 0, .int .i64 0, .int .i64 0, .int .i64 0, .int .i64 0, .int .i64 0, .int .i64 0, .int .i64 0, .int .i64 0, .int .i64 0, .slice none 0 0, .slice none 0 0], .int .i64 1]) ?_ rfl (rpost_err hx.out (bel13_ HFb.out (by have := HQW.out; omega)))
                    simp [results, Tryz.results36, go_sem, bq0, bq1, bq2, bq3, bq4, bq5, bq6, bq7, bq8, bq9, bq10, bq11, bq12, lq]
                  · have hy0 : iy < 0 := by omega
                    clear hbad HBAD HP HPL HPS H13 HX0 HHI HWD HST HO HB HQw HFw
                    have BD := refBad_any wr.drew 1
                    go_wp2_with fail
                    (with_reducible refine (BD).mono ?_)
                    clear BD
                    rintro e wb ⟨rfl, hfb⟩
                    have hqx := blk_go HQd.out hfb
                    have HFb := Lib.hid (Below.trans HFd.out (hfb.mono HFd.out.size))
                    (obtain ⟨bq0, bq1, bq2, bq3, bq4, bq5, bq6, bq7, bq8, bq9, bq10, bq11, bq12⟩ := box13_ hqx)
                    have y0 := blk_free (i := 0) hqx
                    have y1 := blk_free (i := 1) hqx
                    have y2 := blk_free (i := 2) hqx
                    have y3 := blk_free (i := 3) hqx
                    have y4 := blk_free (i := 4) hqx
                    have y5 := blk_free (i := 5) hqx
                    have y6 := blk_free (i := 6) hqx
                    have y7 := blk_free (i := 7) hqx
                    have y8 := blk_free (i := 8) hqx
                    have y9 := blk_free (i := 9) hqx
                    have y10 := blk_free (i := 10) hqx
                    have y11 := blk_free (i := 11) hqx
                    have y12 := blk_free (i := 12) hqx
                    have lq := (Array.getElem?_eq_some_iff.1 hqx).1
                    clear hqx hfb
                    go_wp2_with fail
                    refine bodyPost_ret (v := .tuple #[.agg #[.int .i64 0, .int .i64 0, .int .i64 0, .int .i64 0, .int .i64 0, .int .i64 0, .int .i64 0, .int .i64 0, .int .i64 0, .int .i64 0, .int .i64 0, .slice none 0 0, .slice none 0 0], .int .i64 1]) ?_ rfl (rpost_err hx.out (bel13_ HFb.out (by have := HQW.out; omega)))
                    simp [results, Tryz.results36, go_sem, bq0, bq1, bq2, bq3, bq4, bq5, bq6, bq7, bq8, bq9, bq10, bq11, bq12, lq]
                · have hgood : Hid (hexR m = _) := HST.out.trans (if_neg hbad)
                  have hx0 : ¬ ix < 0 := by omega
                  have hy0 : ¬ iy < 0 := by omega
                  obtain ⟨bt, hbt⟩ : ∃ bt, bt = UInt8.ofNat (ix.toNat * 16 + iy.toNat) := ⟨_, rfl⟩
                  have hbtn : IntKind.u8.wrap (ix * 16 + iy) = (bt.toNat : Int) := by
                    rw [IntKind.wrap_u8, hbt, UInt8.toNat_ofNat']
                    omega
                  rw [← hbt] at hgood
                  have hvi : (vv.set i vi)[i]? = some vi := by rw [List.getElem?_set_self (by omega)]
                  have hcb : wr.drew.cell? ⟨bb, i, none⟩ = some vi := ca_cell HB.out hvi
                  have hyy : Hid (eByte wr (fun b => b < wr.heap.size ∧ vi.ownBlock ≠ some b) (fun j => [Value.int .u8 (bt.toNat : Int)][j]?) bt) := rfl
                  have hbl := HBL.out
                  have hpl' := HPL.out p (List.mem_of_getElem? HP.out)
                  have hpn := HPML.out
                  have hLm : bs.length + 1 ≤ maxLen := by unfold maxLen; omega
                  have hLs : (bs.length + 1) * 1 ≤ lim := by unfold lim; omega
                  have hsw := HCi.out.size
                  have hoe : o + 2 = 2 * (j + 1) + 1 := by rw [HOE.out]; omega
                  have hoj : 2 * (j + 1) ≤ m.length := by have := HM.out; omega
                  have HOE2 := Lib.hid hoe
                  have HOJ := Lib.hid hoj
                  clear HST hbad hbt HQd HFd hbl hpn hoe hoj
                  go_wp2_with (at_builtin; refine wpList_app1 rfl _ _ 22 rfl Wi.heap.size 5 (bV 0) 1 Tryz.underlying22 infoByte rfl (by decide) sByte wr (Below.drew (frAlloc _ _)) _ bs rfl HO.out wr.heap.size [.int .u8 (bt.toNat : Int)] 5 (0, 0) rfl (heap_d (heap_new rfl)) rfl (by simp [Value.oneCell']) _ hyy.out hLm hLs Wi.heap.size wr (Below.refl _ _) (Nat.le_refl _) hsw ?_)
                  intro v' w7 HO7 HF7
                  obtain ⟨A7, c7, hv7, -⟩ := HO7.out.slC sByte (by decide)
                  obtain ⟨n7, hn7⟩ : ∃ n7, n7 = (bs ++ [bt]).length := ⟨_, rfl⟩
                  rw [← hn7] at hv7
                  subst hv7
                  have hb7 : w7.heap[bb]? = some (.cells (cv (vv.set i vi)) 63 (0, 0)) := (HF7.out.block bb hbi).trans HB.out
                  have hz7 : w7.frozen? ⟨bb, i, none⟩ = false := ca_free hb7
                  have hc7 : w7.cell? ⟨bb, i, none⟩ = some vi := ca_cell hb7 hvi
                  have hb8 := ca_set (i := i) (b := (.slice A7 n7 c7)) hb7
                  rw [List.set_set] at hb8
                  have HB8 := Lib.hid hb8
                  have HC8 : Hid (Chg (fun b => b = bb) Wi (w7.setCell ⟨bb, i, none⟩ (.slice A7 n7 c7))) := Chg.set (p := ⟨bb, i, none⟩) (HCi.out.bel (Nat.le_refl _) HF7.out) rfl _
                  have HO8 : Hid (Own 1 eByte (w7.setCell ⟨bb, i, none⟩ (.slice A7 n7 c7)) Wi.heap.size 5 (.slice A7 n7 c7) (bs ++ [bt])) := HO7.out.flatSet (T := fun b => b = bb) (fun h => h) (Chg.set (S := fun b => b = bb) (p := ⟨bb, i, none⟩) (Chg.refl _ _) rfl _) (fun b e => by have e : b = bb := e; omega)
                  clear hb7 hb8 hvi hcb HO7 HF7 HO HB HCi HQw HFw hn7
                  go_wp2_with fail
                  go_roundw
                  case rel => exact ⟨j + 1, o + 2, bs ++ [bt], (.slice A7 n7 c7), HOJ.out, HOE2.out, by simp [HBL.out], by go_num, HO8, HB8, HC8, hgood.out.trans (by cases hexR (m.drop (2 * (j + 1))) <;> simp)⟩
                  case measure => have := HOE.out; simp [intOf]; omega
              · have hmm := HM.out
                have hfin : Hid (hexR m = some bs) := HR.out.trans (by rw [List.drop_eq_nil_of_le (by omega)]; simp [hexR])
                have hpn := HPML.out
                have i1' : ¬ (o : Int) < (p.length : Int) := by omega
                have HC9 : Hid (Chg (fun b => b = bb) W4 wr) := HC.out.trans HCi.out
                have HW9 : Hid (Wd PS W4.heap.size wr (i + 1) (vv.set i vi) (ds ++ [bs])) := (HWD.out.chg HCi.out hbase).step hlt2 HP.out (hwm.out.trans hfin.out) HC.out.size HO.out
                clear hmm hpn HR HO HCi HWD HBAD HC hj ho hbl hlt3
                go_wp2_with fail
                go_roundw
                case rel => first | exact ⟨i + 1, vv.set i vi, ds ++ [bs], by omega, by go_num, HW9, HB, HC9⟩ | ((repeat apply Exists.intro); exact ⟨⟨i + 1, vv.set i vi, ds ++ [bs], by omega, by go_num, HW9, HB, HC9⟩, rfl⟩)
                case measure => simp [intOf]; omega
        · have hi2 : i = 2 := by omega
          subst hi2
          obtain ⟨p1, p2, d1, d2, A1, c1, A2, c2, hp1, hp2, hw1, hw2, hvv, ⟨hk1, hsl1⟩, ⟨hk2, hsl2⟩⟩ := HWD.out.out
          subst hvv
          have hXE := HX0.out.trans (recRead_some HPS.out H13.out HHI.out hp1 hp2 hw1 hw2)
          have hq1 := HPL.out p1 (List.mem_of_getElem? hp1)
          have hq2' := HPL.out p2 (List.mem_of_getElem? hp2)
          have hld := wordR_len hw1
          have hlc := wordR_len hw2
          obtain ⟨a0, a1, a2, a3, a4, a5, a6, a7, a8, a9, a10, hvs⟩ : ∃ a0 a1 a2 a3 a4 a5 a6 a7 a8 a9 a10, vs = [a0, a1, a2, a3, a4, a5, a6, a7, a8, a9, a10] := by
            match vs, hv11 with
            | [a0, a1, a2, a3, a4, a5, a6, a7, a8, a9, a10], _ => exact ⟨a0, a1, a2, a3, a4, a5, a6, a7, a8, a9, a10, rfl⟩
          subst hvs
          have hwf : (recOf [a0, a1, a2, a3, a4, a5, a6, a7, a8, a9, a10] d1 d2).wf := by
            have hv := HVW.out
            simp only [List.forall_mem_cons] at hv
            obtain ⟨v0, v1, v2, v3, v4, v5, v6, v7, v8, v9, v10, _⟩ := hv
            exact ⟨v0, v1, v2, v3, ⟨v4, v5, v6, v7, v8, v9⟩, v10⟩
          obtain ⟨ck, hck⟩ : ∃ ck, ck = recCheck (recOf [a0, a1, a2, a3, a4, a5, a6, a7, a8, a9, a10] d1 d2) := ⟨_, rfl⟩
          rw [← hck] at hXE
          have HXR := Lib.hid hXE
          obtain ⟨n1, hn1⟩ : ∃ n1, n1 = d1.length := ⟨_, rfl⟩
          obtain ⟨n2, hn2⟩ : ∃ n2, n2 = d2.length := ⟨_, rfl⟩
          have CK : Hid (∀ W, Calls Tryz.prog 37 #[.agg #[.int .i64 a0, .int .i64 a1, .int .i64 a2, .int .i64 a3, .int .i64 a4, .int .i64 a5, .int .i64 a6, .int .i64 a7, .int .i64 a8, .int .i64 a9, .int .i64 a10, .slice A1 n1 c1, .slice A2 n2 c2]] W fun e w' => e = .returned (.int .i64 ck) ∧ Fr W w') := fun W => by
            rw [hck]; exact refCheck_any W (recOf [a0, a1, a2, a3, a4, a5, a6, a7, a8, a9, a10] d1 d2) A1 n1 c1 A2 n2 c2 hwf hn1.symm hn2.symm
          have HWF := Lib.hid hwf
          have HB1 : Hid (Byt wr (NW W4.heap.size wr.heap.size) A1 n1 c1 d1) := by rw [hn1]; exact ⟨⟨by unfold lim; omega, hk1⟩, hsl1⟩
          have HB2 : Hid (Byt wr (NW W4.heap.size wr.heap.size) A2 n2 c2 d2) := by rw [hn2]; exact ⟨⟨by unfold lim; omega, hk2⟩, hsl2⟩
          have hE6 : Els 1 eInt wr (LT bb) ad6 11 [a0, a1, a2, a3, a4, a5, a6, a7, a8, a9, a10] := by
            obtain ⟨ad', e, h⟩ := (HE64.out.chg sInt HC.out fun b hb => ⟨Nat.lt_trans hb hbase, fun e => by have e : b = bb := e; have hb : b < bb := hb; omega⟩).els (by omega)
            injection e with e
            subst e; exact h
          have ce : ∀ (k : Nat) (n : Int), k < 11 → [a0, a1, a2, a3, a4, a5, a6, a7, a8, a9, a10][k]? = some n → wr.cell? (ad6.add k) = some (.int .i64 n) := fun k n hk hn => by
            obtain ⟨x, hx, hc⟩ := hE6.int hk
            rw [hn] at hx; injection hx with hx; rw [hx]; exact hc.1
          have e0 := ce 0 _ (by omega) rfl
          have e1 : wr.cell? ⟨ad6.block, ad6.off + 1, none⟩ = some (.int .i64 a1) := ce 1 _ (by omega) rfl
          have e2 : wr.cell? ⟨ad6.block, ad6.off + 2, none⟩ = some (.int .i64 a2) := ce 2 _ (by omega) rfl
          have e3 : wr.cell? ⟨ad6.block, ad6.off + 3, none⟩ = some (.int .i64 a3) := ce 3 _ (by omega) rfl
          have e4 : wr.cell? ⟨ad6.block, ad6.off + 4, none⟩ = some (.int .i64 a4) := ce 4 _ (by omega) rfl
          have e5 : wr.cell? ⟨ad6.block, ad6.off + 5, none⟩ = some (.int .i64 a5) := ce 5 _ (by omega) rfl
          have e6 : wr.cell? ⟨ad6.block, ad6.off + 6, none⟩ = some (.int .i64 a6) := ce 6 _ (by omega) rfl
          have e7 : wr.cell? ⟨ad6.block, ad6.off + 7, none⟩ = some (.int .i64 a7) := ce 7 _ (by omega) rfl
          have e8 : wr.cell? ⟨ad6.block, ad6.off + 8, none⟩ = some (.int .i64 a8) := ce 8 _ (by omega) rfl
          have e9 : wr.cell? ⟨ad6.block, ad6.off + 9, none⟩ = some (.int .i64 a9) := ce 9 _ (by omega) rfl
          have e10 : wr.cell? ⟨ad6.block, ad6.off + 10, none⟩ = some (.int .i64 a10) := ce 10 _ (by omega) rfl
          rw [← hn1, ← hn2] at HBB
          have b0 : wr.cell? ⟨bb, 0, none⟩ = some (.slice A1 n1 c1) := cell_of_heap HBB.out
          have b1 : wr.cell? ⟨bb, 1, none⟩ = some (.slice A2 n2 c2) := cell_of_heap HBB.out
          clear HWD hp1 hp2 hw1 hw2 hk1 hsl1 hk2 hsl2 hXE hq1 hq2' hld hlc hv11 hvl HVW hwf hck hn1 hn2 hE6 ce HX0 HPS H13 HHI HPL hlt2 hi
          go_upto_region 28 with fail
          have hab : ad6.block < wr.heap.size := World.block_lt_of_cell? _ _ e0
          have hbw : bb < wr.heap.size := World.block_lt_of_cell? _ _ b0
          have KEEP : Hid (∀ w', Fr wr w' → Fr wr w' ∧ w'.cell? ad6 = some (.int .i64 a0) ∧ w'.cell? ⟨ad6.block, ad6.off + 1, none⟩ = some (.int .i64 a1) ∧ w'.cell? ⟨ad6.block, ad6.off + 2, none⟩ = some (.int .i64 a2) ∧ w'.cell? ⟨ad6.block, ad6.off + 3, none⟩ = some (.int .i64 a3) ∧ w'.cell? ⟨ad6.block, ad6.off + 4, none⟩ = some (.int .i64 a4) ∧ w'.cell? ⟨ad6.block, ad6.off + 5, none⟩ = some (.int .i64 a5) ∧ w'.cell? ⟨ad6.block, ad6.off + 6, none⟩ = some (.int .i64 a6) ∧ w'.cell? ⟨ad6.block, ad6.off + 7, none⟩ = some (.int .i64 a7) ∧ w'.cell? ⟨ad6.block, ad6.off + 8, none⟩ = some (.int .i64 a8) ∧ w'.cell? ⟨ad6.block, ad6.off + 9, none⟩ = some (.int .i64 a9) ∧ w'.cell? ⟨ad6.block, ad6.off + 10, none⟩ = some (.int .i64 a10) ∧ w'.cell? ⟨bb, 0, none⟩ = some (.slice A1 n1 c1) ∧ w'.cell? ⟨bb, 1, none⟩ = some (.slice A2 n2 c2)) := fun w' hf =>
            ⟨hf, (hf.cell hab).trans e0, (hf.cell (p := ⟨ad6.block, ad6.off + 1, none⟩) hab).trans e1, (hf.cell (p := ⟨ad6.block, ad6.off + 2, none⟩) hab).trans e2, (hf.cell (p := ⟨ad6.block, ad6.off + 3, none⟩) hab).trans e3, (hf.cell (p := ⟨ad6.block, ad6.off + 4, none⟩) hab).trans e4, (hf.cell (p := ⟨ad6.block, ad6.off + 5, none⟩) hab).trans e5, (hf.cell (p := ⟨ad6.block, ad6.off + 6, none⟩) hab).trans e6, (hf.cell (p := ⟨ad6.block, ad6.off + 7, none⟩) hab).trans e7, (hf.cell (p := ⟨ad6.block, ad6.off + 8, none⟩) hab).trans e8, (hf.cell (p := ⟨ad6.block, ad6.off + 9, none⟩) hab).trans e9, (hf.cell (p := ⟨ad6.block, ad6.off + 10, none⟩) hab).trans e10, (hf.cell (p := ⟨bb, 0, none⟩) hbw).trans b0, (hf.cell (p := ⟨bb, 1, none⟩) hbw).trans b1⟩
          clear e0 e1 e2 e3 e4 e5 e6 e7 e8 e9 e10 b0 b1
          refine held_begin (n := 43) (bs := #[false, false, false, false, false, false, false, false, false, false, false, false, false, false, false, false, false, false, false, false, false, false, false, false, false, false, false, false, false, false, false, false, false, false, false, false, false, false, false, false, false, false, false]) rfl rfl (by kernel_rfl) (S := fun w' => Fr wr w' ∧ w'.cell? ad6 = some (.int .i64 a0) ∧ w'.cell? ⟨ad6.block, ad6.off + 1, none⟩ = some (.int .i64 a1) ∧ w'.cell? ⟨ad6.block, ad6.off + 2, none⟩ = some (.int .i64 a2) ∧ w'.cell? ⟨ad6.block, ad6.off + 3, none⟩ = some (.int .i64 a3) ∧ w'.cell? ⟨ad6.block, ad6.off + 4, none⟩ = some (.int .i64 a4) ∧ w'.cell? ⟨ad6.block, ad6.off + 5, none⟩ = some (.int .i64 a5) ∧ w'.cell? ⟨ad6.block, ad6.off + 6, none⟩ = some (.int .i64 a6) ∧ w'.cell? ⟨ad6.block, ad6.off + 7, none⟩ = some (.int .i64 a7) ∧ w'.cell? ⟨ad6.block, ad6.off + 8, none⟩ = some (.int .i64 a8) ∧ w'.cell? ⟨ad6.block, ad6.off + 9, none⟩ = some (.int .i64 a9) ∧ w'.cell? ⟨ad6.block, ad6.off + 10, none⟩ = some (.int .i64 a10) ∧ w'.cell? ⟨bb, 0, none⟩ = some (.slice A1 n1 c1) ∧ w'.cell? ⟨bb, 1, none⟩ = some (.slice A2 n2 c2)) (KEEP.out _ (Below.refl _ _).drew) (fun hHeld => ?_)
          ((first | refine held_sk (i := 0) ?_ | refine held_tk (i := 0) ?_); (first | refine held_sk (i := 1) ?_ | refine held_tk (i := 1) ?_); (first | refine held_sk (i := 2) ?_ | refine held_tk (i := 2) ?_); (first | refine held_sk (i := 3) ?_ | refine held_tk (i := 3) ?_); (first | refine held_sk (i := 4) ?_ | refine held_tk (i := 4) ?_); (first | refine held_sk (i := 5) ?_ | refine held_tk (i := 5) ?_); (first | refine held_sk (i := 6) ?_ | refine held_tk (i := 6) ?_); (first | refine held_sk (i := 7) ?_ | refine held_tk (i := 7) ?_); (first | refine held_sk (i := 8) ?_ | refine held_tk (i := 8) ?_); (first | refine held_sk (i := 9) ?_ | refine held_tk (i := 9) ?_); (first | refine held_sk (i := 10) ?_ | refine held_tk (i := 10) ?_); (first | refine held_sk (i := 11) ?_ | refine held_tk (i := 11) ?_); (first | refine held_sk (i := 12) ?_ | refine held_tk (i := 12) ?_); (first | refine held_sk (i := 13) ?_ | refine held_tk (i := 13) ?_); (first | refine held_sk (i := 14) ?_ | refine held_tk (i := 14) ?_); (first | refine held_sk (i := 15) ?_ | refine held_tk (i := 15) ?_); (first | refine held_sk (i := 16) ?_ | refine held_tk (i := 16) ?_); (first | refine held_sk (i := 17) ?_ | refine held_tk (i := 17) ?_); (first | refine held_sk (i := 18) ?_ | refine held_tk (i := 18) ?_); (first | refine held_sk (i := 19) ?_ | refine held_tk (i := 19) ?_); (first | refine held_sk (i := 20) ?_ | refine held_tk (i := 20) ?_); (first | refine held_sk (i := 21) ?_ | refine held_tk (i := 21) ?_); (first | refine held_sk (i := 22) ?_ | refine held_tk (i := 22) ?_); (first | refine held_sk (i := 23) ?_ | refine held_tk (i := 23) ?_); (first | refine held_sk (i := 24) ?_ | refine held_tk (i := 24) ?_); (first | refine held_sk (i := 25) ?_ | refine held_tk (i := 25) ?_); (first | refine held_sk (i := 26) ?_ | refine held_tk (i := 26) ?_); (first | refine held_sk (i := 27) ?_ | refine held_tk (i := 27) ?_); (first | refine held_sk (i := 28) ?_ | refine held_tk (i := 28) ?_); (first | refine held_sk (i := 29) ?_ | refine held_tk (i := 29) ?_); (first | refine held_sk (i := 30) ?_ | refine held_tk (i := 30) ?_); (first | refine held_sk (i := 31) ?_ | refine held_tk (i := 31) ?_); (first | refine held_sk (i := 32) ?_ | refine held_tk (i := 32) ?_); (first | refine held_sk (i := 33) ?_ | refine held_tk (i := 33) ?_); (first | refine held_sk (i := 34) ?_ | refine held_tk (i := 34) ?_); (first | refine held_sk (i := 35) ?_ | refine held_tk (i := 35) ?_); (first | refine held_sk (i := 36) ?_ | refine held_tk (i := 36) ?_); (first | refine held_sk (i := 37) ?_ | refine held_tk (i := 37) ?_); (first | refine held_sk (i := 38) ?_ | refine held_tk (i := 38) ?_); (first | refine held_sk (i := 39) ?_ | refine held_tk (i := 39) ?_); (first | refine held_sk (i := 40) ?_ | refine held_tk (i := 40) ?_))
          refine held_one (i := 41) rfl (by kernel_rfl) (fun K hK => ?_)
          go_simp
          (refine held_back hK (a' := ?hA3) (l' := ?hL3) ?ha3 ?hl3 (KEEP.out _ (by (repeat' (first | exact Below.refl _ _ | refine below_drewN ?_ _ | refine Below.drew ?_ | refine frA ?_ _)))) (fun hHeld => ?hh3); (case ha3 => first | with_reducible rfl | (simp only [Act.put, hq1, hq2, hq3, Option.isNone, Bool.not_true, Bool.not_false]; (try with_reducible rfl))); (case hl3 => (simp only [Act.put, hq1, hq2, hq3, Option.isNone, Bool.not_true, Bool.not_false]; (try with_reducible rfl))); clear hK K)
          refine held_one (i := 42) rfl (by kernel_rfl) (fun K hK => ?_)
          go_simp
          (refine held_back hK (a' := ?hA4) (l' := ?hL4) ?ha4 ?hl4 (KEEP.out _ (by (repeat' (first | exact Below.refl _ _ | refine below_drewN ?_ _ | refine Below.drew ?_ | refine frA ?_ _)))) (fun hHeld => ?hh4); (case ha4 => first | with_reducible rfl | (simp only [Act.put, hq1, hq2, hq3, Option.isNone, Bool.not_true, Bool.not_false]; (try with_reducible rfl))); (case hl4 => (simp only [Act.put, hq1, hq2, hq3, Option.isNone, Bool.not_true, Bool.not_false]; (try with_reducible rfl))); clear hK K)
          refine wpAnyH_done (by kernel_rfl) ?_ _
          clear hHeld KEEP hab hbw
          obtain ⟨W7, hW7⟩ : ∃ W7, W7 = (wr.alloc (.cells #[.int .i64 a0, .int .i64 a1, .int .i64 a2, .int .i64 a3, .int .i64 a4, .int .i64 a5, .int .i64 a6, .int .i64 a7, .int .i64 a8, .int .i64 a9, .int .i64 a10, .slice A1 n1 c1, .slice A2 n2 c2] 33)).drew := ⟨_, rfl⟩
          obtain ⟨zb, hzb⟩ : ∃ zb, zb = wr.heap.size := ⟨_, rfl⟩
          have hz7 : W7.heap[zb]? = some (.cells #[.int .i64 a0, .int .i64 a1, .int .i64 a2, .int .i64 a3, .int .i64 a4, .int .i64 a5, .int .i64 a6, .int .i64 a7, .int .i64 a8, .int .i64 a9, .int .i64 a10, .slice A1 n1 c1, .slice A2 n2 c2] 33 (0, 0)) := by rw [hW7]; exact heap_d (heap_new hzb)
          have hf7 : Fr wr W7 := by rw [hW7]; exact (frAlloc _ _).drew
          rw [← hW7, ← hzb]
          have HZ7 := Lib.hid hz7
          have HF67 := Lib.hid hf7
          have hzq : q ≠ zb := by have := HC.out.size; omega
          clear hW7 hzb hf7
          (obtain ⟨bz0, bz1, bz2, bz3, bz4, bz5, bz6, bz7, bz8, bz9, bz10, bz11, bz12⟩ := box13_ hz7)
          clear hz7
          go_wp2_with fail
          clear bz0 bz1 bz2 bz3 bz4 bz5 bz6 bz7 bz8 bz9 bz10 bz11 bz12
          (with_reducible refine (CK.out W7).mono ?_)
          rintro e w8 ⟨rfl, hf8⟩
          have hf68 := HF67.out.trans hf8
          have HF68 := Lib.hid hf68
          have HF8 : Hid (Fr w w8) := HFx.out.trans hf68
          have hqx := blk_go HQr.out hf68
          have hzx := blk_go HZ7.out hf8
          have HQ8 := Lib.hid hqx
          clear hf8 hf68 CK HZ7 HF67 HQr
          by_cases h0 : ck = 0
          · have t0 : (ck != 0) = false := by simp [h0]
            have hx : Hid (X = (recOf [a0, a1, a2, a3, a4, a5, a6, a7, a8, a9, a10] d1 d2, 0)) := HXR.out.trans (if_neg (by simp [h0]))
            (obtain ⟨bq0, bq1, bq2, bq3, bq4, bq5, bq6, bq7, bq8, bq9, bq10, bq11, bq12⟩ := box13_ hqx)
            have y0 := blk_free (i := 0) hqx
            have y1 := blk_free (i := 1) hqx
            have y2 := blk_free (i := 2) hqx
            have y3 := blk_free (i := 3) hqx
            have y4 := blk_free (i := 4) hqx
            have y5 := blk_free (i := 5) hqx
            have y6 := blk_free (i := 6) hqx
            have y7 := blk_free (i := 7) hqx
            have y8 := blk_free (i := 8) hqx
            have y9 := blk_free (i := 9) hqx
            have y10 := blk_free (i := 10) hqx
            have y11 := blk_free (i := 11) hqx
            have y12 := blk_free (i := 12) hqx
            have lq := (Array.getElem?_eq_some_iff.1 hqx).1
            (obtain ⟨bz0, bz1, bz2, bz3, bz4, bz5, bz6, bz7, bz8, bz9, bz10, bz11, bz12⟩ := box13_ hzx)
            have KEY : Hid (∀ W9, Chg (fun b => b = q) w8 W9 → Fr w W9 → RPost w X (.returned (.tuple #[.agg #[.int .i64 a0, .int .i64 a1, .int .i64 a2, .int .i64 a3, .int .i64 a4, .int .i64 a5, .int .i64 a6, .int .i64 a7, .int .i64 a8, .int .i64 a9, .int .i64 a10, .slice A1 n1 c1, .slice A2 n2 c2], .int .i64 0])) W9) := by
              intro W9 hC hF
              have hs := HF68.out.size
              have hs9 := hC.size
              have h4 := HF4.out.size
              have hkeep : ∀ {A : Option Addr} {n c : Nat} {l : List UInt8}, Byt wr (NW W4.heap.size wr.heap.size) A n c l → Byt W9 (NW w.heap.size W9.heap.size) A n c l := fun h =>
                ⟨h.1, ((h.2.keep sByte fun x hx => HF68.out.cell hx.2).chg sByte hC fun b hb => ⟨Nat.lt_of_lt_of_le hb.2 hs, fun e => by have e : b = q := e; have := hb.1; omega⟩).more sByte fun b hb => ⟨by have := hb.1; omega, by have := hb.2; omega⟩⟩
              rw [hx.out]
              exact ⟨A1, n1, c1, A2, n2, c2, rfl, HWF.out, hkeep HB1.out, hkeep HB2.out, hF⟩
            clear h0 HXR hqx hzx
            go_wp2_with fail
            refine bodyPost_ret (v := .tuple #[.agg #[.int .i64 a0, .int .i64 a1, .int .i64 a2, .int .i64 a3, .int .i64 a4, .int .i64 a5, .int .i64 a6, .int .i64 a7, .int .i64 a8, .int .i64 a9, .int .i64 a10, .slice A1 n1 c1, .slice A2 n2 c2], .int .i64 0]) ?_ rfl (KEY.out _ (Chg.of (grw13_ ⟨rfl, rfl, rfl, Nat.le_refl _, fun _ _ _ => rfl⟩)) (bel13_ HF8.out (by have := HQW.out; omega)))
            simp [results, Tryz.results36, go_sem, bq0, bq1, bq2, bq3, bq4, bq5, bq6, bq7, bq8, bq9, bq10, bq11, bq12, lq]
          · have t0 : (ck != 0) = true := by simp [h0]
            have hx : Hid (X = (Rc.zero, ck)) := HXR.out.trans (if_pos h0)
            clear h0 HXR hqx hzx
            have BD := refBad_any w8 ck
            go_wp2_with fail
            (with_reducible refine (BD).mono ?_)
            clear BD
            rintro e wb ⟨rfl, hfb⟩
            have hqx := blk_go HQ8.out hfb
            have HFb := Lib.hid (Below.trans HF8.out (hfb.mono HF8.out.size))
            (obtain ⟨bq0, bq1, bq2, bq3, bq4, bq5, bq6, bq7, bq8, bq9, bq10, bq11, bq12⟩ := box13_ hqx)
            have y0 := blk_free (i := 0) hqx
            have y1 := blk_free (i := 1) hqx
            have y2 := blk_free (i := 2) hqx
            have y3 := blk_free (i := 3) hqx
            have y4 := blk_free (i := 4) hqx
            have y5 := blk_free (i := 5) hqx
            have y6 := blk_free (i := 6) hqx
            have y7 := blk_free (i := 7) hqx
            have y8 := blk_free (i := 8) hqx
            have y9 := blk_free (i := 9) hqx
            have y10 := blk_free (i := 10) hqx
            have y11 := blk_free (i := 11) hqx
            have y12 := blk_free (i := 12) hqx
            have lq := (Array.getElem?_eq_some_iff.1 hqx).1
            clear hqx hfb
            go_wp2_with fail
            refine bodyPost_ret (v := .tuple #[.agg #[.int .i64 0, .int .i64 0, .int .i64 0, .int .i64 0, .int .i64 0, .int .i64 0, .int .i64 0, .int .i64 0, .int .i64 0, .int .i64 0, .int .i64 0, .slice none 0 0, .slice none 0 0], .int .i64 ck]) ?_ rfl (rpost_err hx.out (bel13_ HFb.out (by have := HQW.out; omega)))
            simp [results, Tryz.results36, go_sem, bq0, bq1, bq2, bq3, bq4, bq5, bq6, bq7, bq8, bq9, bq10, bq11, bq12, lq]
end Go.Proofs.YtbincgbgeccccaaGreatDoor
