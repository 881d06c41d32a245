/- note.Parse. Condition: the library's variables are laid. -/
import Derived.Test.YtbincgbgeccccaaGreatDoorNByt
import Derived.Test.YtbincgbgeccccaaGreatDoorNCkA
import Derived.Test.YtbincgbgeccccaaGreatDoorTextB
import Derived.Test.YtbincgbgeccccaaGreatDoorBox
import Derived.Test.YtbincgbgeccccaaGreatDoorBox2
import Derived.Lib.AtoiAllCases
set_option linter.unusedSimpArgs false
set_option linter.unusedVariables false
namespace Go.Proofs.YtbincgbgeccccaaGreatDoor
open Go.RowKit
attribute [local irreducible] wpList

/-- What note.Parse leaves. -/
def RPost (w : World) (X : Rc × Int) (e : Ending) (w' : World) : Prop := ∃ B n c B2 n2 c2, e = .returned (.tuple #[.agg #[.int .i64 X.1.kind, .int .i64 X.1.place, .int .i64 X.1.n, .int .i64 X.1.try_, .int .i64 X.1.h.frm, .int .i64 X.1.h.seq, .int .i64 X.1.h.to, .int .i64 X.1.h.till, .int .i64 X.1.h.bytes, .int .i64 X.1.h.block, .int .i64 X.1.s.id, .slice B n c, .slice B2 n2 c2], .int .i64 X.2]) ∧ X.1.wf ∧ Byt w' (NW w.heap.size w'.heap.size) B n c X.1.s.data ∧ Byt w' (NW w.heap.size w'.heap.size) B2 n2 c2 X.1.cargo ∧ Fr w w'
theorem byt_nil {w : World} {S : Nat → Prop} : Byt w S none 0 0 [] := ⟨⟨by unfold lim; omega, by omega, by unfold maxLen; omega⟩, Sl.nil⟩
theorem rpost_err {w w' : World} {X : Rc × Int} {c : Int} (h : X = (Rc.zero, c)) (hf : Fr w w') : RPost w X (.returned (.tuple #[.agg #[.int .i64 0, .int .i64 0, .int .i64 0, .int .i64 0, .int .i64 0, .int .i64 0, .int .i64 0, .int .i64 0, .int .i64 0, .int .i64 0, .int .i64 0, .slice none 0 0, .slice none 0 0], .int .i64 c])) w' := by
  subst h
  exact ⟨none, 0, 0, none, 0, 0, rfl, (by unfold Rc.wf Hd.wf; decide : Rc.zero.wf), byt_nil, byt_nil, hf⟩
theorem piece_len (c : UInt8) : ∀ (l : List UInt8), ∀ p ∈ pieces c l, p.length ≤ l.length
  | [], p, h => by simp [pieces] at h; subst h; simp
  | x :: l, p, h => by
    have ih := piece_len c l
    unfold pieces at h
    split at h
    · rcases List.mem_cons.1 h with rfl | h
      · simp
      · have := ih p h; simp only [List.length_cons]; omega
    · split at h
      · rename_i q qs hq
        rcases List.mem_cons.1 h with rfl | h
        · have := ih q (by rw [hq]; simp); simp only [List.length_cons]; omega
        · have := ih p (by rw [hq]; simp [h]); simp only [List.length_cons]; omega
      · rename_i hq
        exact absurd hq (pieces_ne c l)
set_option maxRecDepth 100000 in
set_option maxHeartbeats 8000000 in
theorem noteParse_any (w : World) (v : Vars w) (l : List UInt8) (hl : l.length ≤ lim) :
    Calls Tryz.prog 33 #[sV l] w (RPost w (parseF l)) := by
  have hsz := sV_size l
  unfold lim at hl
  obtain ⟨q, hq⟩ : ∃ q, q = w.heap.size := ⟨_, rfl⟩
  obtain ⟨W1, hW1⟩ : ∃ W1, W1 = w.alloc (.cells #[.int .i64 0, .int .i64 0, .int .i64 0, .int .i64 0, .int .i64 0, .int .i64 0, .int .i64 0, .int .i64 0, .int .i64 0, .int .i64 0, .int .i64 0, .slice none 0 0, .slice none 0 0] 33) := ⟨_, rfl⟩
  have HQ1 : Hid (W1.heap[q]? = some (.cells #[.int .i64 0, .int .i64 0, .int .i64 0, .int .i64 0, .int .i64 0, .int .i64 0, .int .i64 0, .int .i64 0, .int .i64 0, .int .i64 0, .int .i64 0, .slice none 0 0, .slice none 0 0] 33 (0, 0))) := by rw [hW1]; exact heap_new hq
  have HF1 : Hid (Fr w W1) := by rw [hW1]; exact frAlloc _ _
  have HQW := Lib.hid hq
  have HV := Lib.hid v
  clear v
  obtain ⟨X, hX⟩ : ∃ X, X = parseF l := ⟨_, rfl⟩
  rw [← hX]
  have HX := Lib.hid hX
  clear hX
  by_cases h1 : 60000 < l.length
  case pos =>
    have hx : Hid (X = (Rc.zero, 2)) := HX.out.trans (by unfold parseF; rw [if_pos h1])
    have t1 : decide ((60000 : Int) < (l.length : Int)) = true := by simp; omega
    have hf : Hid (Fr w (w.alloc (.cells #[.int .i64 0, .int .i64 0, .int .i64 0, .int .i64 0, .int .i64 0, .int .i64 0, .int .i64 0, .int .i64 0, .int .i64 0, .int .i64 0, .int .i64 0, .slice none 0 0, .slice none 0 0] 33))) := frAlloc _ _
    clear hl h1 hq hW1
    go_enter Tryz.func33, Tryz.ntmps33
    go_wp2_with fail
    refine bodyPost_ret (v := .tuple #[.agg #[.int .i64 0, .int .i64 0, .int .i64 0, .int .i64 0, .int .i64 0, .int .i64 0, .int .i64 0, .int .i64 0, .int .i64 0, .int .i64 0, .int .i64 0, .slice none 0 0, .slice none 0 0], .int .i64 2]) ?_ rfl (rpost_err hx.out hf.out)
    simp [results, Tryz.results33, go_sem]
  case neg =>
  have t1 : decide ((60000 : Int) < (l.length : Int)) = false := by simp; omega
  obtain ⟨PS, hPS⟩ : ∃ PS, PS = pieces 32 l := ⟨_, rfl⟩
  obtain ⟨ad, had⟩ : ∃ ad : Addr, ad = ⟨W1.heap.size, 0, none⟩ := ⟨_, rfl⟩
  obtain ⟨W2, hW2⟩ : ∃ W2, W2 = W1.alloc (.cells (PS.map sV).toArray 9) := ⟨_, rfl⟩
  have SP : Hid (Calls Tryz.prog 51 #[sV l, sV [32]] W1 fun e w' => e = .returned (.slice (some ad) PS.length PS.length) ∧ w' = W2) := by
    rw [hPS, had, hW2, hPS]; exact split_any W1 (HV.out.go HF1.out) 32 l (by omega)
  have hx0 : Hid (X = recRead l) := HX.out.trans (by unfold parseF; rw [if_neg h1])
  have HSL : Hid (Els 1 eStr W2 (LT W2.heap.size) ad PS.length PS) := by
    have hb : W2.heap[W1.heap.size]? = some (.cells (PS.map sV).toArray 9 (0, 0)) := by rw [hW2]; exact heap_new rfl
    have := Sl.litStrs (S := LT W2.heap.size) (n := PS.length) (xs := PS) hb (Array.getElem?_eq_some_iff.1 hb).1 rfl rfl
    rw [had]
    by_cases h0 : 0 < PS.length
    · obtain ⟨ad', e, h⟩ := this.els h0
      injection e with e
      rw [e]; exact h
    · exact absurd (by rw [hPS]; exact List.length_pos_iff.2 (pieces_ne 32 l)) h0
  have hpl : ∀ p ∈ PS, p.length ≤ 60000 := fun p hp => Nat.le_trans (piece_len 32 l p (by rw [← hPS]; exact hp)) (by omega)
  have HPL := Lib.hid hpl
  have HF2 : Hid (Fr w W2) := HF1.out.trans (by rw [hW2]; exact frAlloc _ _)
  have HQ2 : Hid (W2.heap[q]? = some (.cells #[.int .i64 0, .int .i64 0, .int .i64 0, .int .i64 0, .int .i64 0, .int .i64 0, .int .i64 0, .int .i64 0, .int .i64 0, .int .i64 0, .int .i64 0, .slice none 0 0, .slice none 0 0] 33 (0, 0))) := blk_go HQ1.out (by rw [hW2]; exact frAlloc _ _)
  have hq2 : q < W2.heap.size := by rw [hW2, hq]; have := HF1.out.size; simp; omega
  have HPS := Lib.hid hPS
  clear hpl hPS had hW2 hl h1 HX
  go_enter Tryz.func33, Tryz.ntmps33
  go_wp2_with fail
  rw [← hW1, ← hq]
  clear hW1 hq
  (with_reducible refine (SP.out).mono ?_)
  rintro e w2 ⟨rfl, hw2⟩
  rw [hw2]
  clear hw2 SP HQ1 HF1 t1 w2
  by_cases h13 : PS.length = 13
  case neg =>
    have t2 : ((PS.length : Int) != 13) = true := by simp only [bne_iff_ne]; omega
    have hx : Hid (X = (Rc.zero, 1)) := hx0.out.trans (by unfold recRead; rw [← HPS.out, if_pos h13])
    have hqx := HQ2.out
    (obtain ⟨bq0, bq1, bq2, bq3, bq4, bq5, bq6, bq7, bq8, bq9, bq10, bq11, bq12⟩ := box13_ hqx)
    have y0 := blk_free (i := 0) hqx
    have y1 := blk_free (i := 1) hqx
    have y2 := blk_free (i := 2) hqx
    have y3 := blk_free (i := 3) hqx
    have y4 := blk_free (i := 4) hqx
    have y5 := blk_free (i := 5) hqx
    have y6 := blk_free (i := 6) hqx
    have y7 := blk_free (i := 7) hqx
    have y8 := blk_free (i := 8) hqx
    have y9 := blk_free (i := 9) hqx
    have y10 := blk_free (i := 10) hqx
    have y11 := blk_free (i := 11) hqx
    have y12 := blk_free (i := 12) hqx
    have lq := (Array.getElem?_eq_some_iff.1 hqx).1
    clear h13 hqx
    go_wp2_with fail
    refine bodyPost_ret (v := .tuple #[.agg #[.int .i64 0, .int .i64 0, .int .i64 0, .int .i64 0, .int .i64 0, .int .i64 0, .int .i64 0, .int .i64 0, .int .i64 0, .int .i64 0, .int .i64 0, .slice none 0 0, .slice none 0 0], .int .i64 1]) ?_ rfl (rpost_err hx.out (bel13_ HF2.out (by have := HQW.out; omega)))
    simp [results, Tryz.results33, go_sem, bq0, bq1, bq2, bq3, bq4, bq5, bq6, bq7, bq8, bq9, bq10, bq11, bq12, lq]
  case pos =>
  rw [h13]
  have HSL2 : Hid (Sl 1 eStr W2 (LT W2.heap.size) (some ad) 13 PS) := by
    have := HSL.out.sl
    rw [h13] at this
    exact this
  have H13 := Lib.hid h13
  have HX0 := Lib.hid hx0
  clear h13 HSL hx0
  go_upto_region 7 with fail
  obtain ⟨W3, hW3⟩ : ∃ W3, W3 = W2.alloc (.cells #[.int .i64 0, .int .i64 0, .int .i64 0, .int .i64 0, .int .i64 0, .int .i64 0, .int .i64 0, .int .i64 0, .int .i64 0, .int .i64 0, .int .i64 0] 61) := ⟨_, rfl⟩
  obtain ⟨nb, hnb⟩ : ∃ nb, nb = W2.heap.size := ⟨_, rfl⟩
  have HN3 : Hid (W3.heap[nb]? = some (.cells (ca (Value.int .i64) ([] ++ List.replicate (11 - 0) 0)) 61 (0, 0))) := by rw [hW3]; exact heap_new hnb
  have hf3 : Fr W2 W3 := by rw [hW3]; exact frAlloc _ _
  have HF3 : Hid (Fr w W3) := HF2.out.trans hf3
  have HQ3 := Lib.hid (blk_go HQ2.out hf3)
  have HSL3 : Hid (Sl 1 eStr W3 (LT nb) (some ad) 13 PS) := by rw [hnb]; exact HSL2.out.keep sStr fun x hx => hf3.cell hx
  have hnw : w.heap.size < nb := by rw [hnb]; have := HQW.out; omega
  have hqn : q < nb := by rw [hnb]; exact hq2
  have hn3 : nb < W3.heap.size := by rw [hW3, hnb]; simp
  rw [← hW3, ← hnb]
  clear hW3 hnb hf3 HF2 HQ2 HSL2 hq2
  go_wp2_with fail
  go_loopw [25] (fun s25 wr => ∃ (k : Nat) (vs : List Int), k ≤ 11 ∧ s25 = .int .i64 k ∧ Hid (intsR (PS.take k) = some vs) ∧ Hid (vs.length = k) ∧ Hid (∀ x ∈ vs, wfI x) ∧ Hid (wr.heap[nb]? = some (.cells (ca (Value.int .i64) (vs ++ List.replicate (11 - k) 0)) 61 (0, 0))) ∧ Hid (Chg (fun b => b = nb) W3 wr)) (fun i _ => 11 - (intOf i).toNat)
  case atStart => exact ⟨0, [], Nat.zero_le _, rfl, rfl, rfl, fun x hx => by simp at hx, HN3, Chg.refl _ _⟩
  case round =>
    obtain ⟨k, vs, hk, rfl, HI, HVL, HVW, HN, HC⟩ := hrel
    have HFr : Hid (Fr w wr) := HC.out.fr HF3.out fun x e => by have e : x = nb := e; omega
    have HQr := Lib.hid (HC.out.blk HQ3.out (fun e => by have e : q = nb := e; omega))
    clear HN3
    by_cases hlt : k < 11
    · have hE : Els 1 eStr wr (LT nb) ad 13 PS := by
        obtain ⟨ad', e, h⟩ := (HSL3.out.chg sStr HC.out fun b hb => ⟨Nat.lt_trans hb hn3, fun e => by have e : b = nb := e; have hb : b < nb := hb; omega⟩).els (by omega)
        injection e with e
        subst e; exact h
      obtain ⟨p, hp, hcp⟩ := hE.str (show k < 13 by omega)
      have hpl := HPL.out p (List.mem_of_getElem? hp)
      have HAT : Hid ((∃ n, Lib.atoiAll p = .ok n ∧ Hid (Calls Tryz.prog 52 #[sV p] wr fun e w' => Fr wr w' ∧ e = .returned (.tuple #[.int .i64 n, .nilIface]))) ∨ (intR p = none ∧ Hid (Calls Tryz.prog 52 #[sV p] wr fun e w' => Fr wr w' ∧ ∃ n t pv, e = .returned (.tuple #[.int .i64 n, .iface t pv])))) := by
        have h := atoi_any wr (HV.out.go HFr.out) p (by omega)
        cases ha : Lib.atoiAll p
        case ok n => rw [ha] at h; exact .inl ⟨n, rfl, h⟩
        all_goals (rw [ha] at h; exact .inr ⟨by unfold intR; rw [ha], h⟩)
      have hpk : (PS.take 11)[k]? = some p := by rw [List.getElem?_take, if_pos hlt]; exact hp
      have HBAD : Hid (intR p = none → X = (Rc.zero, 1)) := fun h => HX0.out.trans (by
        unfold recRead
        rw [← HPS.out, if_neg (by simp [H13.out]), intsR_none hpk h])
      have HP := Lib.hid hp
      clear hE hp hpl hpk
      rcases HAT.out with ⟨n, ha, AT⟩ | ⟨hno, AT⟩
      · clear HAT
        have hwn : wfI n := wfI.mk (Lib.atoiAll_bounds ha)
        have hint : intR p = if Lib.itoa n = p then some n else none := by unfold intR; rw [ha]
        have HINT := Lib.hid hint
        have HPK := Lib.hid hcp
        have HWN := Lib.hid hwn
        have hadb : ad.block < wr.heap.size := by have := World.block_lt_of_cell? wr _ hcp; rw [block_of_add] at this; exact this
        have i1 : (k : Int) < 13 := by omega
        have i2 : k < 13 := by omega
        clear ha hint hwn
        go_wp2_with fail
        (with_reducible refine (AT.out).mono ?_)
        rintro e w5 ⟨hf5, rfl⟩
        have HQ5 := Lib.hid (blk_go HQr.out hf5)
        have HN5 := Lib.hid (blk_go HN.out hf5)
        have HF5 : Hid (Fr w w5) := HFr.out.trans hf5
        have HC5 : Hid (Chg (fun b => b = nb) W3 w5) := HC.out.trans hf5.chg
        have hadb5 : ad.block < w5.heap.size := Nat.lt_of_lt_of_le hadb hf5.size
        have hSC : Hid (∀ w', Fr w5 w' → Fr w5 w' ∧ w'.cell? (ad.add k) = some (sV p)) := fun w' hf => ⟨hf, (hf.cell (by rw [block_of_add]; exact hadb5)).trans ((hf5.cell (World.block_lt_of_cell? wr _ HPK.out)).trans HPK.out)⟩
        have IT : Hid (Calls Tryz.prog 28 #[.int .i64 n] w5.drew fun e w' => e = .returned (sV (Lib.itoa n)) ∧ Fr w5.drew w') := itoa_any w5.drew ((HV.out.go HF5.out).go (frDrewN w5 1)) n HWN.out
        clear hf5 AT hcp HN HC HFr HQr
        go_wp2_with fail
        refine held_begin (n := 11) (bs := #[false, false, false, false, false, false, false, false, false, false, false]) rfl rfl (by kernel_rfl) (S := fun w' => Fr w5 w' ∧ w'.cell? (ad.add k) = some (sV p)) (hSC.out _ (Below.refl _ _).drew) (fun hHeld => ?_)
        ((first | refine held_sk (i := 0) ?_ | refine held_tk (i := 0) ?_); (first | refine held_sk (i := 1) ?_ | refine held_tk (i := 1) ?_); (first | refine held_sk (i := 2) ?_ | refine held_tk (i := 2) ?_); (first | refine held_sk (i := 3) ?_ | refine held_tk (i := 3) ?_); (first | refine held_sk (i := 5) ?_ | refine held_tk (i := 5) ?_); (first | refine held_sk (i := 6) ?_ | refine held_tk (i := 6) ?_); (first | refine held_sk (i := 7) ?_ | refine held_tk (i := 7) ?_); (first | refine held_sk (i := 8) ?_ | refine held_tk (i := 8) ?_))
        refine held_one (i := 4) rfl (by kernel_rfl) (fun K hK => ?_)
        go_simp
        go_at_call 28
        (with_reducible refine (IT.out).mono ?_)
        rintro e w6 ⟨rfl, hf6⟩
        (refine held_back hK (a' := ?hA1) (l' := ?hL1) ?ha1 ?hl1 (hSC.out _ ((Below.refl _ _).drew.trans hf6)) (fun hHeld => ?hh1); (case ha1 => first | with_reducible rfl | (simp only [Act.put, hq1, hq2, hq3, Option.isNone, Bool.not_true, Bool.not_false]; (try with_reducible rfl))); (case hl1 => (simp only [Act.put, hq1, hq2, hq3, Option.isNone, Bool.not_true, Bool.not_false]; (try with_reducible rfl))); clear hK K)
        ((first | refine held_sk (i := 9) ?_ | refine held_tk (i := 9) ?_); (first | refine held_sk (i := 10) ?_ | refine held_tk (i := 10) ?_))
        refine wpAnyH_done (by kernel_rfl) ?_ _
        have hf56 : Fr w5 w6 := (Below.refl _ _).drew.trans hf6
        have HF6 : Hid (Fr w w6) := HF5.out.trans hf56
        have HQ6 := Lib.hid (blk_go HQ5.out hf56)
        have HN6 := Lib.hid (blk_go HN5.out hf56)
        have HC6 : Hid (Chg (fun b => b = nb) W3 w6) := HC5.out.trans hf56.chg
        clear hHeld hf6 IT hSC HQ5 HN5 HF5 HC5 hf56 hadb hadb5 HPK
        by_cases he : Lib.itoa n = p
        · have te : (Lib.itoa n == p) = true := by simp [he]
          rw [te]
          have hin : intsR (PS.take (k + 1)) = some (vs ++ [n]) := by
            rw [List.take_add_one, HP.out]
            exact intsR_snoc HI.out (HINT.out.trans (if_pos he))
          have hvl : (vs ++ [n]).length = k + 1 := by rw [List.length_append, HVL.out]; rfl
          have hvw : ∀ x ∈ vs ++ [n], wfI x := fun x hx => by
            rcases List.mem_append.1 hx with hx | hx
            · exact HVW.out x hx
            · obtain rfl := List.mem_singleton.1 hx; exact HWN.out
          have hset : (vs ++ List.replicate (11 - k) 0).set k n = (vs ++ [n]) ++ List.replicate (11 - (k + 1)) 0 := by
            rw [List.set_append_right _ _ (by rw [HVL.out]; exact Nat.le_refl _), HVL.out, Nat.sub_self, show 11 - k = (11 - (k + 1)) + 1 by omega, List.replicate_succ, List.set_cons_zero, List.append_assoc]; rfl
          have hn7 := ca_set (i := k) (b := n) HN6.out
          rw [hset] at hn7
          have HN7 := Lib.hid hn7
          have hg : (vs ++ List.replicate (11 - k) 0)[k]? = some 0 := by
            rw [List.getElem?_append_right (by rw [HVL.out]; exact Nat.le_refl _), HVL.out, Nat.sub_self, show 11 - k = (11 - (k + 1)) + 1 by omega, List.replicate_succ]; rfl
          have n0 := ca_cell HN6.out hg
          have n1 := ca_free (i := k) HN6.out
          have HI7 := Lib.hid hin
          have HL7 := Lib.hid hvl
          have HW7 := Lib.hid hvw
          have HC7 : Hid (Chg (fun b => b = nb) W3 (w6.setCell ⟨nb, k, none⟩ (.int .i64 n))) := HC6.out.set rfl _
          have i3 : (k : Int) < 11 := by omega
          clear he HBAD HP hin hvl hvw hset hn7 hg HI HVL HVW HINT HWN HN6 HC6
          go_wp2_with fail
          go_roundw
          case rel => exact ⟨k + 1, vs ++ [n], by omega, by go_num, HI7, HL7, HW7, HN7, HC7⟩
          case measure => simp [intOf]; omega
        · have te : (Lib.itoa n == p) = false := by simp [he]
          rw [te]
          have hx := Lib.hid (HBAD.out (HINT.out.trans (if_neg he)))
          have hqx := HQ6.out
          (obtain ⟨bq0, bq1, bq2, bq3, bq4, bq5, bq6, bq7, bq8, bq9, bq10, bq11, bq12⟩ := box13_ hqx)
          have y0 := blk_free (i := 0) hqx
          have y1 := blk_free (i := 1) hqx
          have y2 := blk_free (i := 2) hqx
          have y3 := blk_free (i := 3) hqx
          have y4 := blk_free (i := 4) hqx
          have y5 := blk_free (i := 5) hqx
          have y6 := blk_free (i := 6) hqx
          have y7 := blk_free (i := 7) hqx
          have y8 := blk_free (i := 8) hqx
          have y9 := blk_free (i := 9) hqx
          have y10 := blk_free (i := 10) hqx
          have y11 := blk_free (i := 11) hqx
          have y12 := blk_free (i := 12) hqx
          have lq := (Array.getElem?_eq_some_iff.1 hqx).1
          clear he HBAD HP HPL H13 HX0 HPS hqx HI HVL HVW HINT HWN HN6 HC6
          go_wp2_with fail
          refine bodyPost_ret (v := .tuple #[.agg #[.int .i64 0, .int .i64 0, .int .i64 0, .int .i64 0, .int .i64 0, .int .i64 0, .int .i64 0, .int .i64 0, .int .i64 0, .int .i64 0, .int .i64 0, .slice none 0 0, .slice none 0 0], .int .i64 1]) ?_ rfl (rpost_err hx.out (bel13_ HF6.out (by have := HQW.out; omega)))
          simp [results, Tryz.results33, go_sem, bq0, bq1, bq2, bq3, bq4, bq5, bq6, bq7, bq8, bq9, bq10, bq11, bq12, lq]
      · have hx := Lib.hid (HBAD.out hno)
        clear HAT hno HBAD HP HPL H13 HX0 HPS
        go_wp2_with fail
        (with_reducible refine (AT.out).mono ?_)
        rintro e w5 ⟨hf5, n, t, pv, rfl⟩
        have hqx := blk_go HQr.out hf5
        have HF5 : Hid (Fr w w5) := HFr.out.trans hf5
        (obtain ⟨bq0, bq1, bq2, bq3, bq4, bq5, bq6, bq7, bq8, bq9, bq10, bq11, bq12⟩ := box13_ hqx)
        have y0 := blk_free (i := 0) hqx
        have y1 := blk_free (i := 1) hqx
        have y2 := blk_free (i := 2) hqx
        have y3 := blk_free (i := 3) hqx
        have y4 := blk_free (i := 4) hqx
        have y5 := blk_free (i := 5) hqx
        have y6 := blk_free (i := 6) hqx
        have y7 := blk_free (i := 7) hqx
        have y8 := blk_free (i := 8) hqx
        have y9 := blk_free (i := 9) hqx
        have y10 := blk_free (i := 10) hqx
        have y11 := blk_free (i := 11) hqx
        have y12 := blk_free (i := 12) hqx
        have lq := (Array.getElem?_eq_some_iff.1 hqx).1
        clear hf5 AT hcp hqx
        go_wp2_with fail
        refine held_begin (n := 11) (bs := #[false, false, false, false, false, false, false, false, false, false, false]) rfl rfl (by kernel_rfl) (S := fun w' => w' = w5.drew) rfl (fun hHeld => ?_)
        ((first | refine held_sk (i := 0) ?_ | refine held_tk (i := 0) ?_); (first | refine held_sk (i := 1) ?_ | refine held_tk (i := 1) ?_); (first | refine held_sk (i := 2) ?_ | refine held_tk (i := 2) ?_); (first | refine held_sk (i := 3) ?_ | refine held_tk (i := 3) ?_); (first | refine held_sk (i := 4) ?_ | refine held_tk (i := 4) ?_); (first | refine held_sk (i := 5) ?_ | refine held_tk (i := 5) ?_); (first | refine held_sk (i := 6) ?_ | refine held_tk (i := 6) ?_); (first | refine held_sk (i := 7) ?_ | refine held_tk (i := 7) ?_); (first | refine held_sk (i := 8) ?_ | refine held_tk (i := 8) ?_); (first | refine held_sk (i := 9) ?_ | refine held_tk (i := 9) ?_); (first | refine held_sk (i := 10) ?_ | refine held_tk (i := 10) ?_))
        refine wpAnyH_done (by kernel_rfl) ?_ _
        clear hHeld
        go_wp2_with fail
        refine bodyPost_ret (v := .tuple #[.agg #[.int .i64 0, .int .i64 0, .int .i64 0, .int .i64 0, .int .i64 0, .int .i64 0, .int .i64 0, .int .i64 0, .int .i64 0, .int .i64 0, .int .i64 0, .slice none 0 0, .slice none 0 0], .int .i64 1]) ?_ rfl (rpost_err hx.out (bel13_ HF5.out (by have := HQW.out; omega)).drew)
        simp [results, Tryz.results33, go_sem, bq0, bq1, bq2, bq3, bq4, bq5, bq6, bq7, bq8, bq9, bq10, bq11, bq12, lq]
    · have hk' : k = 11 := by omega
      have hv11 : vs.length = 11 := by rw [HVL.out, hk']
      have hI : intsR (PS.take 11) = some vs := by rw [← hk']; exact HI.out
      have hn11 : wr.heap[nb]? = some (.cells (ca (Value.int .i64) vs) 61 (0, 0)) := by
        have := HN.out
        rw [hk', show 11 - 11 = 0 from rfl, List.replicate_zero, List.append_nil] at this
        exact this
      have hE : Els 1 eStr wr (LT nb) ad 13 PS := by
        obtain ⟨ad', e, h⟩ := (HSL3.out.chg sStr HC.out fun b hb => ⟨Nat.lt_trans hb hn3, fun e => by have e : b = nb := e; have hb : b < nb := hb; omega⟩).els (by omega)
        injection e with e
        subst e; exact h
      obtain ⟨p1, hp1, hc1⟩ := hE.str (show 11 < 13 by omega)
      obtain ⟨p2, hp2, hc2⟩ := hE.str (show 12 < 13 by omega)
      have hc1' : wr.cell? ⟨ad.block, ad.off + 11, none⟩ = some (sV p1) := hc1
      have hc2' : wr.cell? ⟨ad.block, ad.off + 12, none⟩ = some (sV p2) := hc2
      have hl1 := HPL.out p1 (List.mem_of_getElem? hp1)
      have hl2 := HPL.out p2 (List.mem_of_getElem? hp2)
      have HXE : Hid (X = match wordR p1 with
          | none => (Rc.zero, 1)
          | some d => match wordR p2 with
            | none => (Rc.zero, 1)
            | some c => if recCheck (recOf vs d c) ≠ 0 then (Rc.zero, recCheck (recOf vs d c)) else (recOf vs d c, 0)) := HX0.out.trans (by
        unfold recRead
        rw [← HPS.out, if_neg (by simp [H13.out]), hI]
        simp only [List.getD_eq_getElem?_getD, hp1, hp2, Option.getD_some]
        cases wordR p1 with
        | none => rfl
        | some d => cases wordR p2 <;> rfl)
      have h34 := HC.out.size
      obtain ⟨W4, hW4⟩ : ∃ W4, W4 = wr := ⟨_, rfl⟩
      rw [← hW4] at h34 hn11 hc1 hc2 hc1' hc2' HFr HQr
      rw [← hW4]
      have HN4 := Lib.hid hn11
      have HC1 := Lib.hid hc1
      have HC2 := Lib.hid hc2'
      have HL1 := Lib.hid hl1
      have HL2 := Lib.hid hl2
      have HV11 := Lib.hid hv11
      have hb4 : ad.block < W4.heap.size := by have := World.block_lt_of_cell? W4 _ hc1; rw [block_of_add] at this; exact this
      have BY1 : Hid (Calls Tryz.prog 53 #[sV p1] W4 (WbPost W4 (wordR p1))) := noteBytes_any W4 p1 (by omega)
      clear hk' hW4 hI HI HVL HN HC hE hp1 hp2 hl1 hl2 hn11 hv11 HPL HPS HX0 H13 hc2 hc2'
      go_wp2_with fail
      (with_reducible refine (BY1.out).mono ?_)
      rintro e w5 h5
      obtain ⟨A1, n1, c1, rfl, hf5, hs5⟩ := wb_out h5
      obtain ⟨o1, ho1⟩ : ∃ o1, o1 = (wordR p1).isSome := ⟨_, rfl⟩
      rw [← ho1]
      have hc5 : w5.cell? ⟨ad.block, ad.off + 12, none⟩ = some (sV p2) := (hf5.cell (p := ⟨ad.block, ad.off + 12, none⟩) hb4).trans HC2.out
      have BY2 : Hid (Calls Tryz.prog 53 #[sV p2] w5 (WbPost w5 (wordR p2))) := noteBytes_any w5 p2 (by have := HL2.out; omega)
      have HQ5 := Lib.hid (blk_go HQr.out hf5)
      have HN5 := Lib.hid (blk_go HN4.out hf5)
      have HF5 : Hid (Fr w w5) := HFr.out.trans hf5
      have HS5 := Lib.hid hs5
      have h45 : W4.heap.size ≤ w5.heap.size := hf5.size
      have HO1 := Lib.hid ho1
      clear h5 hf5 hs5 ho1 BY1 hc1 hc1' HQr HN4 HC1 HC2
      go_wp2_with fail
      (with_reducible refine (BY2.out).mono ?_)
      rintro e w6 h6
      obtain ⟨A2, n2, c2, rfl, hf6, hs6⟩ := wb_out h6
      obtain ⟨o2, ho2⟩ : ∃ o2, o2 = (wordR p2).isSome := ⟨_, rfl⟩
      rw [← ho2]
      have HQ6 := Lib.hid (blk_go HQ5.out hf6)
      have HN6 := Lib.hid (blk_go HN5.out hf6)
      have HF6 : Hid (Fr w w6) := HF5.out.trans hf6
      have HF56 := Lib.hid hf6
      have HS6 := Lib.hid hs6
      have h56 : w5.heap.size ≤ w6.heap.size := hf6.size
      clear h6 hf6 hs6 BY2 hc5 HQ5 HN5
      have hqx := HQ6.out
      cases hw1 : wordR p1 with
      | none =>
        have h1 : o1 = false := by rw [HO1.out, hw1]; rfl
        have hx : Hid (X = (Rc.zero, 1)) := HXE.out.trans (by rw [hw1])
        rw [h1]
        clear h1 hw1 HO1 ho2 HXE HS5 HS6
        (obtain ⟨bq0, bq1, bq2, bq3, bq4, bq5, bq6, bq7, bq8, bq9, bq10, bq11, bq12⟩ := box13_ hqx)
        have y0 := blk_free (i := 0) hqx
        have y1 := blk_free (i := 1) hqx
        have y2 := blk_free (i := 2) hqx
        have y3 := blk_free (i := 3) hqx
        have y4 := blk_free (i := 4) hqx
        have y5 := blk_free (i := 5) hqx
        have y6 := blk_free (i := 6) hqx
        have y7 := blk_free (i := 7) hqx
        have y8 := blk_free (i := 8) hqx
        have y9 := blk_free (i := 9) hqx
        have y10 := blk_free (i := 10) hqx
        have y11 := blk_free (i := 11) hqx
        have y12 := blk_free (i := 12) hqx
        have lq := (Array.getElem?_eq_some_iff.1 hqx).1
        clear hqx
        go_wp2_with fail
        refine bodyPost_ret (v := .tuple #[.agg #[.int .i64 0, .int .i64 0, .int .i64 0, .int .i64 0, .int .i64 0, .int .i64 0, .int .i64 0, .int .i64 0, .int .i64 0, .int .i64 0, .int .i64 0, .slice none 0 0, .slice none 0 0], .int .i64 1]) ?_ rfl (rpost_err hx.out (bel13_ HF6.out (by have := HQW.out; omega)))
        simp [results, Tryz.results33, go_sem, bq0, bq1, bq2, bq3, bq4, bq5, bq6, bq7, bq8, bq9, bq10, bq11, bq12, lq]
      | some d =>
      cases hw2 : wordR p2 with
      | none =>
        have h1 : o1 = true := by rw [HO1.out, hw1]; rfl
        have h2 : o2 = false := by rw [ho2, hw2]; rfl
        have hx : Hid (X = (Rc.zero, 1)) := HXE.out.trans (by rw [hw1, hw2])
        rw [h1, h2]
        clear h1 h2 hw1 hw2 HO1 ho2 HXE HS5 HS6
        (obtain ⟨bq0, bq1, bq2, bq3, bq4, bq5, bq6, bq7, bq8, bq9, bq10, bq11, bq12⟩ := box13_ hqx)
        have y0 := blk_free (i := 0) hqx
        have y1 := blk_free (i := 1) hqx
        have y2 := blk_free (i := 2) hqx
        have y3 := blk_free (i := 3) hqx
        have y4 := blk_free (i := 4) hqx
        have y5 := blk_free (i := 5) hqx
        have y6 := blk_free (i := 6) hqx
        have y7 := blk_free (i := 7) hqx
        have y8 := blk_free (i := 8) hqx
        have y9 := blk_free (i := 9) hqx
        have y10 := blk_free (i := 10) hqx
        have y11 := blk_free (i := 11) hqx
        have y12 := blk_free (i := 12) hqx
        have lq := (Array.getElem?_eq_some_iff.1 hqx).1
        clear hqx
        go_wp2_with fail
        refine bodyPost_ret (v := .tuple #[.agg #[.int .i64 0, .int .i64 0, .int .i64 0, .int .i64 0, .int .i64 0, .int .i64 0, .int .i64 0, .int .i64 0, .int .i64 0, .int .i64 0, .int .i64 0, .slice none 0 0, .slice none 0 0], .int .i64 1]) ?_ rfl (rpost_err hx.out (bel13_ HF6.out (by have := HQW.out; omega)))
        simp [results, Tryz.results33, go_sem, bq0, bq1, bq2, bq3, bq4, bq5, bq6, bq7, bq8, bq9, bq10, bq11, bq12, lq]
      | some cg =>
      have h1 : o1 = true := by rw [HO1.out, hw1]; rfl
      have h2 : o2 = true := by rw [ho2, hw2]; rfl
      obtain ⟨e1, hk1, hsl1⟩ := HS5.out d hw1
      obtain ⟨e2, hk2, hsl2⟩ := HS6.out cg hw2
      have hld := wordR_len hw1
      have hlc := wordR_len hw2
      have hl1' := HL1.out
      have hl2' := HL2.out
      obtain ⟨a0, a1, a2, a3, a4, a5, a6, a7, a8, a9, a10, hvs⟩ : ∃ a0 a1 a2 a3 a4 a5 a6 a7 a8 a9 a10, vs = [a0, a1, a2, a3, a4, a5, a6, a7, a8, a9, a10] := by
        have := HV11.out
        match vs, this with
        | [a0, a1, a2, a3, a4, a5, a6, a7, a8, a9, a10], _ => exact ⟨a0, a1, a2, a3, a4, a5, a6, a7, a8, a9, a10, rfl⟩
      subst hvs
      have HXR : Hid (X = if recCheck (recOf [a0, a1, a2, a3, a4, a5, a6, a7, a8, a9, a10] d cg) ≠ 0 then (Rc.zero, recCheck (recOf [a0, a1, a2, a3, a4, a5, a6, a7, a8, a9, a10] d cg)) else (recOf [a0, a1, a2, a3, a4, a5, a6, a7, a8, a9, a10] d cg, 0)) := HXE.out.trans (by rw [hw1, hw2])
      have hwf : (recOf [a0, a1, a2, a3, a4, a5, a6, a7, a8, a9, a10] d cg).wf := by
        have hv := HVW.out
        simp only [List.forall_mem_cons] at hv
        obtain ⟨v0, v1, v2, v3, v4, v5, v6, v7, v8, v9, v10, _⟩ := hv
        exact ⟨v0, v1, v2, v3, ⟨v4, v5, v6, v7, v8, v9⟩, v10⟩
      obtain ⟨ck, hck⟩ : ∃ ck, ck = recCheck (recOf [a0, a1, a2, a3, a4, a5, a6, a7, a8, a9, a10] d cg) := ⟨_, rfl⟩
      rw [← hck] at HXR
      have CK : Hid (∀ W, Calls Tryz.prog 27 #[.agg #[.int .i64 a0, .int .i64 a1, .int .i64 a2, .int .i64 a3, .int .i64 a4, .int .i64 a5, .int .i64 a6, .int .i64 a7, .int .i64 a8, .int .i64 a9, .int .i64 a10, .slice A1 n1 c1, .slice A2 n2 c2]] W fun e w' => e = .returned (.int .i64 ck) ∧ Fr W w') := fun W => by
        rw [hck]; exact noteCheck_any W (recOf [a0, a1, a2, a3, a4, a5, a6, a7, a8, a9, a10] d cg) A1 n1 c1 A2 n2 c2 hwf e1.symm e2.symm
      have HWF := Lib.hid hwf
      have hnx : w6.heap[nb]? = some (.cells #[.int .i64 a0, .int .i64 a1, .int .i64 a2, .int .i64 a3, .int .i64 a4, .int .i64 a5, .int .i64 a6, .int .i64 a7, .int .i64 a8, .int .i64 a9, .int .i64 a10] 61 (0, 0)) := HN6.out
      have HB1 : Hid (Byt w6 (NW W4.heap.size w6.heap.size) A1 n1 c1 d) := ⟨⟨by unfold lim; omega, hk1⟩, (hsl1.keep sByte fun x hx => HF56.out.cell hx.2).more sByte fun x hx => ⟨hx.1, Nat.lt_of_lt_of_le hx.2 h56⟩⟩
      have HB2 : Hid (Byt w6 (NW W4.heap.size w6.heap.size) A2 n2 c2 cg) := ⟨⟨by unfold lim; omega, hk2⟩, hsl2.more sByte fun x hx => ⟨Nat.le_trans h45 hx.1, hx.2⟩⟩
      have hw4 : w.heap.size < W4.heap.size := by omega
      rw [h1, h2]
      clear h1 h2 e1 e2 hk1 hk2 hsl1 hsl2 hld hlc hl1' hl2' hw1 hw2 HO1 ho2 HXE HS5 HS6 hck hwf HF56 hqx HVW HV11
      (obtain ⟨bn0, bn1, bn2, bn3, bn4, bn5, bn6, bn7, bn8, bn9, bn10⟩ := box11_ hnx)
      clear hnx
      go_wp2_with fail
      obtain ⟨W7, hW7⟩ : ∃ W7, W7 = w6.alloc (.cells #[.int .i64 a0, .int .i64 a1, .int .i64 a2, .int .i64 a3, .int .i64 a4, .int .i64 a5, .int .i64 a6, .int .i64 a7, .int .i64 a8, .int .i64 a9, .int .i64 a10, .slice A1 n1 c1, .slice A2 n2 c2] 33) := ⟨_, rfl⟩
      obtain ⟨zb, hzb⟩ : ∃ zb, zb = w6.heap.size := ⟨_, rfl⟩
      have hz7 : W7.heap[zb]? = some (.cells #[.int .i64 a0, .int .i64 a1, .int .i64 a2, .int .i64 a3, .int .i64 a4, .int .i64 a5, .int .i64 a6, .int .i64 a7, .int .i64 a8, .int .i64 a9, .int .i64 a10, .slice A1 n1 c1, .slice A2 n2 c2] 33 (0, 0)) := by rw [hW7]; exact heap_new hzb
      have hf7 : Fr w6 W7 := by rw [hW7]; exact frAlloc _ _
      rw [← hW7, ← hzb]
      have HZ7 := Lib.hid hz7
      have HF67 := Lib.hid hf7
      have hzq : q ≠ zb := by omega
      clear hW7 hzb hz7 hf7 bn0 bn1 bn2 bn3 bn4 bn5 bn6 bn7 bn8 bn9 bn10
      (with_reducible refine (CK.out W7).mono ?_)
      rintro e w8 ⟨rfl, hf8⟩
      have hf68 := HF67.out.trans hf8
      have HF68 := Lib.hid hf68
      have HF8 : Hid (Fr w w8) := HF6.out.trans hf68
      have hqx := blk_go HQ6.out hf68
      have hzx := blk_go HZ7.out hf8
      have HQ8 := Lib.hid hqx
      clear hf8 hf68 CK HZ7 HF67 HQ6
      (obtain ⟨bq0, bq1, bq2, bq3, bq4, bq5, bq6, bq7, bq8, bq9, bq10, bq11, bq12⟩ := box13_ hqx)
      have y0 := blk_free (i := 0) hqx
      have y1 := blk_free (i := 1) hqx
      have y2 := blk_free (i := 2) hqx
      have y3 := blk_free (i := 3) hqx
      have y4 := blk_free (i := 4) hqx
      have y5 := blk_free (i := 5) hqx
      have y6 := blk_free (i := 6) hqx
      have y7 := blk_free (i := 7) hqx
      have y8 := blk_free (i := 8) hqx
      have y9 := blk_free (i := 9) hqx
      have y10 := blk_free (i := 10) hqx
      have y11 := blk_free (i := 11) hqx
      have y12 := blk_free (i := 12) hqx
      have lq := (Array.getElem?_eq_some_iff.1 hqx).1
      by_cases h0 : ck = 0
      · have t0 : (ck != 0) = false := by simp [h0]
        have hx : Hid (X = (recOf [a0, a1, a2, a3, a4, a5, a6, a7, a8, a9, a10] d cg, 0)) := HXR.out.trans (if_neg (by simp [h0]))
        (obtain ⟨bz0, bz1, bz2, bz3, bz4, bz5, bz6, bz7, bz8, bz9, bz10, bz11, bz12⟩ := box13_ hzx)
        have KEY : Hid (∀ W9, Chg (fun b => b = q) w8 W9 → Fr w W9 → RPost w X (.returned (.tuple #[.agg #[.int .i64 a0, .int .i64 a1, .int .i64 a2, .int .i64 a3, .int .i64 a4, .int .i64 a5, .int .i64 a6, .int .i64 a7, .int .i64 a8, .int .i64 a9, .int .i64 a10, .slice A1 n1 c1, .slice A2 n2 c2], .int .i64 0])) W9) := by
          intro W9 hC hF
          have hs := HF68.out.size
          have hs9 := hC.size
          have hkeep : ∀ {A : Option Addr} {n c : Nat} {l : List UInt8}, Byt w6 (NW W4.heap.size w6.heap.size) A n c l → Byt W9 (NW w.heap.size W9.heap.size) A n c l := fun h =>
            ⟨h.1, ((h.2.keep sByte fun x hx => HF68.out.cell hx.2).chg sByte hC fun b hb => ⟨Nat.lt_of_lt_of_le hb.2 hs, fun e => by have e : b = q := e; have := hb.1; omega⟩).more sByte fun b hb => ⟨by have := hb.1; omega, by have := hb.2; omega⟩⟩
          rw [hx.out]
          exact ⟨A1, n1, c1, A2, n2, c2, rfl, HWF.out, hkeep HB1.out, hkeep HB2.out, hF⟩
        clear h0 HXR hqx hzx
        go_wp2_with fail
        refine bodyPost_ret (v := .tuple #[.agg #[.int .i64 a0, .int .i64 a1, .int .i64 a2, .int .i64 a3, .int .i64 a4, .int .i64 a5, .int .i64 a6, .int .i64 a7, .int .i64 a8, .int .i64 a9, .int .i64 a10, .slice A1 n1 c1, .slice A2 n2 c2], .int .i64 0]) ?_ rfl (KEY.out _ (Chg.of (grw13_ ⟨rfl, rfl, rfl, Nat.le_refl _, fun _ _ _ => rfl⟩)) (bel13_ HF8.out (by have := HQW.out; omega)))
        simp [results, Tryz.results33, go_sem, bq0, bq1, bq2, bq3, bq4, bq5, bq6, bq7, bq8, bq9, bq10, bq11, bq12, lq]
      · have t0 : (ck != 0) = true := by simp [h0]
        have hx : Hid (X = (Rc.zero, ck)) := HXR.out.trans (if_pos h0)
        clear h0 HXR hqx hzx
        go_wp2_with fail
        refine bodyPost_ret (v := .tuple #[.agg #[.int .i64 0, .int .i64 0, .int .i64 0, .int .i64 0, .int .i64 0, .int .i64 0, .int .i64 0, .int .i64 0, .int .i64 0, .int .i64 0, .int .i64 0, .slice none 0 0, .slice none 0 0], .int .i64 ck]) ?_ rfl (rpost_err hx.out (bel13_ HF8.out (by have := HQW.out; omega)))
        simp [results, Tryz.results33, go_sem, bq0, bq1, bq2, bq3, bq4, bq5, bq6, bq7, bq8, bq9, bq10, bq11, bq12, lq]
end Go.Proofs.YtbincgbgeccccaaGreatDoor
