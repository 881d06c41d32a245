/- keep.Check. No condition. -/
import Derived.Test.YtmiaplgfbphfmaaGreatDoorMPGB
import Derived.Test.YtmiaplgfbphfmaaGreatDoorMPGG
import Derived.Test.YtmiaplgfbphfmaaGreatDoorMPP
import Derived.Test.YtmiaplgfbphfmaaGreatDoorMPGA
set_option linter.unusedSimpArgs false
set_option linter.unusedVariables false
namespace Go.Proofs.YtmiaplgfbphfmaaGreatDoor
open Go.RowKit
attribute [local irreducible] wpList

theorem keptSame_any (w : World) (o : Sm) (A : Option Addr) (n c : Nat) (id : Int) (b : Nat) (hb : w.cell? ⟨b, 0, none⟩ = some (.int .i64 id)) :
    Calls Tryz.prog 136 #[.agg #[.int .i64 o.id, .slice A n c], .pointer (some ⟨b, 0, none⟩)] w fun e w' => e = .returned (.bool (decide (o.id = id))) ∧ Fr w w' := by
  have hb' : ∀ ob, (w.alloc ob).cell? ⟨b, 0, none⟩ = some (.int .i64 id) := fun ob => ((frAlloc w ob).cell (p := ⟨b, 0, none⟩) (World.block_lt_of_cell? w _ hb)).trans hb
  go_enter Tryz.func136, Tryz.ntmps136
  go_wp2_with fail
  go_ret
  exact ⟨retB (by first | rfl | simp [*]), by (repeat' (first | exact Below.refl _ _ | refine below_drewN ?_ _ | refine Below.drew ?_ | refine frA ?_ _))⟩
theorem symsErr_step {h : Hd} {l : List Sm} {k : Nat} {s : Sm} (hs : l[k]? = some s) : symsErr h (l.take k) (l.drop k) = if codeCheck h.bytes h.block s.id s.data.length ≠ 0 then codeCheck h.bytes h.block s.id s.data.length else if (l.take k).any (fun o => decide (o.id = s.id)) then 6 else symsErr h (l.take (k + 1)) (l.drop (k + 1)) := by
  rw [drop_cons hs, symsErr, ← take_snoc' hs]
set_option maxRecDepth 100000 in
set_option maxHeartbeats 16000000 in
theorem kept_any (w : World) (x : Kp) (me time : Int) (A : Option Addr) (n c : Nat) (A2 : Option Addr) (n2 c2 : Nat) (A3 : Option Addr) (n3 c3 : Nat) (h : KpR w (LT w.heap.size) A n c A2 n2 c2 A3 n3 c3 x) :
    Calls Tryz.prog 98 #[.agg #[.int .i64 x.h.frm, .int .i64 x.h.seq, .int .i64 x.h.to, .int .i64 x.h.till, .int .i64 x.h.bytes, .int .i64 x.h.block, .bool x.own, .slice A n c, .slice A2 n2 c2, .int .i64 x.shares, .int .i64 x.giving, .int .i64 x.towards, .int .i64 x.try_, .slice A3 n3 c3, .bool x.delivered, .bool x.purged], .int .i64 me, .int .i64 time] w fun e w' => e = .returned (.int .i64 (keptCheck x me time)) ∧ Fr w w' := by
  have hwh := h.wf.1
  have hwh' := hwh
  obtain ⟨_, _, _, _, wB, wK⟩ := hwh'
  have hl1 : x.cargo.length = n := h.cargo.2.1
  have hl2 : x.syms.length = n2 := h.syms.2.1
  have hl3 : x.took.length = n3 := h.took.2.1
  have hn2 : n2 ≤ lim := by have := h.syms.1; omega
  unfold lim at hn2
  have H := Lib.hid h
  have E := Lib.hid (keptCheck.eq_1 x me time)
  rw [hl1, hl2, hl3] at E
  have KS := Lib.hid (fun W => keepShares_any W x me A n c A2 n2 c2 A3 n3 c3)
  have hcf : ∀ (args : Array Value) (W : World), (callFunc 136 args).run Tryz.prog W = .ok (.enter 136 args) W := entersW Tryz.func136 (by kernel_rfl) (by kernel_rfl)
  clear h
  (have Hl2 := Lib.hid hl2; clear hl2)
  clear hl1 hl3
  obtain ⟨hd, hhd⟩ : ∃ hd, hd = hdCheck x.h := ⟨_, rfl⟩
  obtain ⟨se, hse⟩ : ∃ se, se = symsErr x.h [] x.syms := ⟨_, rfl⟩
  obtain ⟨sh, hsh⟩ : ∃ sh, sh = sharesCheck x me := ⟨_, rfl⟩
  rw [← hhd, ← hse, ← hsh] at E
  rw [← hsh] at KS
  have HHD : Hid (∀ W, Calls Tryz.prog 103 #[.agg #[.int .i64 x.h.frm, .int .i64 x.h.seq, .int .i64 x.h.to, .int .i64 x.h.till, .int .i64 x.h.bytes, .int .i64 x.h.block]] W fun e w' => e = .returned (.int .i64 hd) ∧ Fr W w') := fun W => by rw [hhd]; exact noteHead_any W x.h hwh
  (have Hse := Lib.hid hse; clear hse)
  clear hhd hsh
  go_enter Tryz.func98, Tryz.ntmps98
  go_upto_region 1 with fail
  obtain ⟨W1, hW1⟩ : ∃ W1, W1 = w.alloc (.cells #[.int .i64 x.h.frm, .int .i64 x.h.seq, .int .i64 x.h.to, .int .i64 x.h.till, .int .i64 x.h.bytes, .int .i64 x.h.block, .bool x.own, .slice A n c, .slice A2 n2 c2, .int .i64 x.shares, .int .i64 x.giving, .int .i64 x.towards, .int .i64 x.try_, .slice A3 n3 c3, .bool x.delivered, .bool x.purged] 96) := ⟨_, rfl⟩
  obtain ⟨p, hp⟩ : ∃ p, p = w.heap.size := ⟨_, rfl⟩
  have hbx : W1.heap[p]? = some (.cells #[.int .i64 x.h.frm, .int .i64 x.h.seq, .int .i64 x.h.to, .int .i64 x.h.till, .int .i64 x.h.bytes, .int .i64 x.h.block, .bool x.own, .slice A n c, .slice A2 n2 c2, .int .i64 x.shares, .int .i64 x.giving, .int .i64 x.towards, .int .i64 x.try_, .slice A3 n3 c3, .bool x.delivered, .bool x.purged] 96 (0, 0)) := by rw [hW1]; exact heap_new hp
  have HF1 : Hid (Fr w W1) := by rw [hW1]; exact frAlloc _ _
  rw [← hW1, ← hp]
  clear hW1 hp
  (obtain ⟨bx0, bx1, bx2, bx3, bx4, bx5, bx6, bx7, bx8, bx9, bx10, bx11, bx12, bx13, bx14, bx15⟩ := box16_ hbx)
  have HBX := Lib.hid hbx
  clear hbx
  go_wp2_with fail
  (with_reducible refine (HHD.out _).mono ?_)
  rintro e w2 ⟨rfl, hf2⟩
  have HF2 : Hid (Fr w w2) := HF1.out.trans hf2
  have hbw := blk_go HBX.out hf2
  clear bx0 bx1 bx2 bx3 bx4 bx5 bx6 bx7 bx8 bx9 bx10 bx11 bx12 bx13 bx14 bx15 HBX hf2 HF1 HHD
  (obtain ⟨bx0, bx1, bx2, bx3, bx4, bx5, bx6, bx7, bx8, bx9, bx10, bx11, bx12, bx13, bx14, bx15⟩ := box16_ hbw)
  have HBX := Lib.hid hbw
  clear hbw
  by_cases h0 : hd = 0
  case neg =>
    have t0 : (hd != 0) = true := by simp [h0]
    have E1 := Lib.hid (E.out.trans (if_pos h0))
    clear h0 E
    go_wp2_with fail
    go_ret
    exact ⟨retI E1.out.symm, HF2.out⟩
  case pos =>
  have t0 : (hd != 0) = false := by simp [h0]
  have E1 := Lib.hid (E.out.trans (if_neg (fun e => e h0)))
  clear h0 E
  by_cases h1 : x.h.till ≤ time
  case pos =>
    have E2 := Lib.hid (E1.out.trans (if_pos h1))
    clear E1
    go_wp2_with fail
    go_ret
    exact ⟨retI E2.out.symm, HF2.out⟩
  case neg =>
  have E2 := Lib.hid (E1.out.trans (if_neg h1))
  clear E1
  go_upto_region 6 with fail
  clear h1
  go_cut [62] (fun s62 wx => ∃ B : Bool, s62 = .bool B ∧ Hid (B = true ↔ (x.own ≠ decide (x.h.frm = me) ∨ x.own ≠ decide (0 < n) ∨ (x.own = true ∧ (n : Int) ≠ x.h.bytes) ∨ (x.own = true ∧ 0 < n2))) ∧ wx = w2)
  case first =>
    clear E2 KS
    obtain ⟨b0, t1⟩ : ∃ b, x.own = b := ⟨_, rfl⟩
    obtain ⟨b6, t6⟩ : ∃ b, (x.h.frm == me) = b := ⟨_, rfl⟩
    obtain ⟨b7, t7⟩ : ∃ b, decide (0 < n) = b := ⟨_, rfl⟩
    obtain ⟨b8, t8⟩ : ∃ b, ((n : Int) != x.h.bytes) = b := ⟨_, rfl⟩
    obtain ⟨b9, t9⟩ : ∃ b, decide (0 < n2) = b := ⟨_, rfl⟩
    have t7' : decide ((0 : Int) < (n : Int)) = b7 := by rw [← t7]; simp
    have t9' : decide ((0 : Int) < (n2 : Int)) = b9 := by rw [← t9]; simp
    have TT : Hid (decide (x.h.frm = me) = b6 ∧ decide (0 < n) = b7 ∧ ((n : Int) ≠ x.h.bytes ↔ b8 = true) ∧ (0 < n2 ↔ b9 = true)) := by rw [← t6, ← t7, ← t8, ← t9]; exact ⟨by rw [Bool.eq_iff_iff]; simp, rfl, by simp, by simp⟩
    rw [t1] at bx6
    go_wp2_with fail
    all_goals go_meet
    all_goals exact ⟨_, rfl, by rw [Hid, t1, TT.out.1, TT.out.2.1, TT.out.2.2.1, TT.out.2.2.2]; clear bx0 bx1 bx2 bx3 bx4 bx5 bx6 bx7 bx8 bx9 bx10 bx11 bx12 bx13 bx14 bx15 HBX TT t1 t6 t7 t8 t9 t7' t9' t0 hcf H; first | (simp; done) | (simp [*]; done) | (simp_all; done), rfl⟩
  case rest =>
    obtain ⟨B1, rfl, HB1, hwc⟩ := hcut
    rw [hwc]
    clear hwc
    cases B1 with
    | true =>
      have E3 := Lib.hid (E2.out.trans (if_pos (HB1.out.1 rfl)))
      clear E2
      go_wp2_with fail
      go_ret
      exact ⟨retI E3.out.symm, HF2.out⟩
    | false =>
      have E3 := Lib.hid (E2.out.trans (if_neg (fun e => absurd (HB1.out.2 e) (by simp))))
      clear E2 HB1
      go_upto_region 8 with fail
      go_cut [72] (fun s72 wx => ∃ B : Bool, s72 = .bool B ∧ Hid (B = true ↔ (60 < n2 ∨ 40 < n3)) ∧ wx = w2)
      case first =>
        clear E3 KS
        go_wp2_with fail
        all_goals (try simp only [beq_iff_eq, bne_iff_ne, beq_eq_false_iff_ne, bne_eq_false_iff_eq, ne_eq, Decidable.not_not, Int.natCast_inj, Bool.or_eq_true, Bool.and_eq_true, Bool.or_eq_false_iff, Bool.and_eq_false_iff, Bool.not_eq_true', Bool.not_eq_false', decide_eq_true_eq, decide_eq_false_iff_not, Bool.not_eq_true, Bool.not_eq_false] at *)
        all_goals go_meet
        all_goals exact ⟨_, rfl, by unfold Hid; simp; omega, rfl⟩
      case rest =>
        obtain ⟨B2, rfl, HB2, hwc⟩ := hcut
        rw [hwc]
        clear hwc
        cases B2 with
        | true =>
          have E4 := Lib.hid (E3.out.trans (if_pos (HB2.out.1 rfl)))
          clear E3
          go_wp2_with fail
          go_ret
          exact ⟨retI E4.out.symm, HF2.out⟩
        | false =>
          have E4 := Lib.hid (E3.out.trans (if_neg (fun e => absurd (HB2.out.2 e) (by simp))))
          have HN2 : Hid (n2 ≤ 60) := by
            rcases Nat.lt_or_ge 60 n2 with h | h
            · exact absurd (HB2.out.2 (.inl h)) (by simp)
            · exact h
          clear E3 HB2
          go_wp2_with fail
          clear bx0 bx1 bx2 bx3 bx4 bx5 bx6 bx7 bx8 bx9 bx10 bx11 bx12 bx13 bx14 bx15
          go_loopw [76] (fun i wr => ∃ k : Nat, k ≤ n2 ∧ i = .int .i64 k ∧ Hid (se = symsErr x.h (x.syms.take k) (x.syms.drop k)) ∧ Hid (Fr w2 wr)) (fun i _ => n2 - (intOf i).toNat)
          case atStart => exact ⟨0, Nat.zero_le _, rfl, Hse.out, Below.refl _ _⟩
          case round =>
            obtain ⟨k, hk, rfl, HS, HF⟩ := hrel
            have hbw := blk_go HBX.out HF.out
            (obtain ⟨bx0, bx1, bx2, bx3, bx4, bx5, bx6, bx7, bx8, bx9, bx10, bx11, bx12, bx13, bx14, bx15⟩ := box16_ hbw)
            clear hbw
            by_cases hlt : k < n2
            · have HT := Lib.hid (H.out.syms.2.go sSm (HF2.out.trans HF.out))
              obtain ⟨ad, rfl, hE⟩ := HT.out.els (by omega)
              obtain ⟨s, hs, hr⟩ := hE.row hlt
              obtain ⟨A5, n5, c5, ⟨m0, m1⟩, _, hby⟩ := eSm_at hr
              obtain ⟨cc, hcc⟩ : ∃ cc, cc = codeCheck x.h.bytes x.h.block s.id n5 := ⟨_, rfl⟩
              have HS2 : Hid (se = if cc ≠ 0 then cc else if (x.syms.take k).any (fun o => decide (o.id = s.id)) then 6 else symsErr x.h (x.syms.take (k + 1)) (x.syms.drop (k + 1))) := by rw [Hid, HS.out, hcc, ← hby.2.1]; exact symsErr_step hs
              have CC : Hid (∀ W, Calls Tryz.prog 104 #[.agg #[.int .i64 x.h.bytes, .int .i64 x.h.block], .agg #[.int .i64 s.id, .slice A5 n5 c5]] W fun e w' => e = .returned (.int .i64 cc) ∧ Fr W w') := fun W => by rw [hcc]; exact codeCheck_any _ _ _ _ _ _ _ wB wK
              have HP := Lib.hid (HT.out.pre (Nat.le_of_lt hlt))
              have hkc : k ≤ c2 := by have := H.out.syms.1; omega
              clear HS hE hs hr hcc hby
              go_upto_region 13 with fail
              obtain ⟨W5, hW5⟩ : ∃ W5, W5 = wr.alloc (.cells #[.int .i64 s.id, .slice A5 n5 c5] 38) := ⟨_, rfl⟩
              obtain ⟨q5, hq5⟩ : ∃ q5, q5 = wr.heap.size := ⟨_, rfl⟩
              have hQ5 : W5.heap[q5]? = some (.cells #[.int .i64 s.id, .slice A5 n5 c5] 38 (0, 0)) := by rw [hW5]; exact heap_new hq5
              have hF5 : Fr wr W5 := by rw [hW5]; exact frAlloc _ _
              have hX5 := blk_go (blk_go HBX.out HF.out) hF5
              have HF5 := Lib.hid hF5
              rw [← hW5, ← hq5]
              clear hW5 hq5 hF5 bx0 bx1 bx2 bx3 bx4 bx5 bx6 bx7 bx8 bx9 bx10 bx11 bx12 bx13 bx14 bx15 m0 m1
              (obtain ⟨bx0, bx1, bx2, bx3, bx4, bx5, bx6, bx7, bx8, bx9, bx10, bx11, bx12, bx13, bx14, bx15⟩ := box16_ hX5)
              (obtain ⟨bq0, bq1⟩ := box2_ hQ5)
              (have HX5 := Lib.hid hX5; clear hX5; have HQ5 := Lib.hid hQ5; clear hQ5)
              go_wp2_with fail
              (with_reducible refine (CC.out _).mono ?_)
              rintro e w6 ⟨rfl, hf6⟩
              have hX6 := blk_go HX5.out hf6
              have hQ6 := blk_go HQ5.out hf6
              have HF6 : Hid (Fr wr w6) := HF5.out.trans hf6
              clear bx0 bx1 bx2 bx3 bx4 bx5 bx6 bx7 bx8 bx9 bx10 bx11 bx12 bx13 bx14 bx15 bq0 bq1 HX5 HQ5 hf6 HF5 CC
              (obtain ⟨bx0, bx1, bx2, bx3, bx4, bx5, bx6, bx7, bx8, bx9, bx10, bx11, bx12, bx13, bx14, bx15⟩ := box16_ hX6)
              (obtain ⟨bq0, bq1⟩ := box2_ hQ6)
              (have HX6 := Lib.hid hX6; clear hX6; have HQ6 := Lib.hid hQ6; clear hQ6)
              by_cases h9 : cc = 0
              case neg =>
                have t9 : (cc != 0) = true := by simp [h9]
                have HS3 : Hid (se = cc) := HS2.out.trans (if_pos h9)
                have E5 : Hid (keptCheck x me time = cc) := by rw [Hid, E4.out, HS3.out, if_pos h9]
                clear h9 E4 HS2 HS3
                go_wp2_with fail
                go_ret
                exact ⟨retI E5.out.symm, (HF2.out.trans HF.out).trans HF6.out⟩
              case pos =>
              have t9 : (cc != 0) = false := by simp [h9]
              obtain ⟨q, hq⟩ : ∃ q, q = (x.syms.take k).any (fun o => decide (o.id = s.id)) := ⟨_, rfl⟩
              have HS3 : Hid (se = if q = true then 6 else symsErr x.h (x.syms.take (k + 1)) (x.syms.drop (k + 1))) := by rw [Hid, HS2.out, if_neg (fun e => e h9), hq]
              have CT : Hid (Calls Tryz.prog 135 #[.slice (some ad) k c2, .func (.func 136) #[] #[.pointer (some ⟨q5, 0, none⟩)]] w6 fun e w' => e = .returned (.bool q) ∧ Fr w6 w') := by
                rw [hq]
                exact containsFuncSm_any w6 _ _ hcf _ (fun W y A n c hf => keptSame_any W y A n c s.id q5 (cell_of_heap (blk_go HQ6.out hf))) _ _ _ _ (HP.out.go sSm HF6.out) (by unfold maxLen; have := HN2.out; omega)
              clear h9 HS2 hq HP HT
              go_wp2_with fail
              (with_reducible refine (CT.out).mono ?_)
              rintro e w7 ⟨rfl, hf7⟩
              have HF7 : Hid (Fr wr w7) := HF6.out.trans hf7
              clear hf7 CT
              cases q with
              | true =>
                have HS4 : Hid (se = 6) := by rw [Hid, HS3.out, if_pos rfl]
                have E5 : Hid (keptCheck x me time = 6) := by rw [Hid, E4.out, HS4.out, if_pos (by decide)]
                clear HS3 E4
                go_wp2_with fail
                go_ret
                exact ⟨retI E5.out.symm, (HF2.out.trans HF.out).trans HF7.out⟩
              | false =>
                have HS4 : Hid (se = symsErr x.h (x.syms.take (k + 1)) (x.syms.drop (k + 1))) := by rw [Hid, HS3.out, if_neg (by simp)]
                clear HS3
                go_wp2_with fail
                go_roundw
                case rel => exact ⟨k + 1, by omega, by go_num, HS4, HF.out.trans HF7.out⟩
                case measure => simp [intOf]; omega
            · have HE : Hid (se = 0) := by
                rw [Hid, HS.out, List.drop_eq_nil_of_le (by have := Hl2.out; omega)]; rfl
              have E5 := Lib.hid (E4.out.trans (if_neg (fun e => e HE.out)))
              clear E4 HS
              go_wp2_with fail
              (with_reducible refine (KS.out _ (H.out.go (HF2.out.trans HF.out))).mono ?_)
              rintro e w7 ⟨rfl, hf7⟩
              have HF7 := Lib.hid hf7
              clear hf7
              go_wp2_with fail
              go_ret
              exact ⟨retI E5.out.symm, (HF2.out.trans HF.out).trans HF7.out⟩
end Go.Proofs.YtmiaplgfbphfmaaGreatDoor
namespace Go.Proofs.YtmiaplgfbphfmaaGreatDoor
open Go.RowKit
attribute [local irreducible] wpList

/-- The head of the one ahead of the k-th. -/
def prevH (l : List Kp) (k : Nat) : Option Hd := (l.take k).getLast?.map (·.h)
theorem keepsErr_step {me time seq : Int} {l : List Kp} {k : Nat} {x : Kp} (h : l[k]? = some x) : keepsErr me time seq (prevH l k) (l.drop k) = if keptCheck x me time ≠ 0 then keptCheck x me time else if x.own = true ∧ seq ≤ x.h.seq then 4 else if (prevH l k).any (fun q => !aheadB q x.h) then 6 else keepsErr me time seq (prevH l (k + 1)) (l.drop (k + 1)) := by
  have e : prevH l (k + 1) = some x.h := by unfold prevH; rw [take_snoc' h]; simp
  rw [drop_cons h, keepsErr, e]
theorem prevH_zero (l : List Kp) : prevH l 0 = none := by simp [prevH]
theorem prevH_succ {l : List Kp} {k : Nat} {y : Kp} (h : l[k]? = some y) : prevH l (k + 1) = some y.h := by unfold prevH; rw [take_snoc' h]; simp
set_option maxRecDepth 100000 in
set_option maxHeartbeats 4000000 in
theorem keepCheck_any (w : World) (p : Pc) (A : Option Addr) (n c : Nat) (h : Sl 16 eKp w (LT w.heap.size) A n p.keep) (hn : n ≤ maxLen) :
    Calls Tryz.prog 63 #[.agg #[.int .i64 p.me, .slice A n c, .int .i64 p.time, .int .i64 p.seq]] w fun e w' => e = .returned (.int .i64 (placeCheck p)) ∧ Fr w w' := by
  unfold maxLen at hn
  have hl : p.keep.length = n := h.1
  have E := Lib.hid (placeCheck.eq_1 p)
  rw [hl] at E
  obtain ⟨ke, hke⟩ : ∃ ke, ke = keepsErr p.me p.time p.seq none p.keep := ⟨_, rfl⟩
  rw [← hke] at E
  have HKE : Hid (ke = keepsErr p.me p.time p.seq (prevH p.keep 0) (p.keep.drop 0)) := by rw [Hid, prevH_zero, List.drop_zero, hke]
  (have H := Lib.hid h; clear h; have Hl := Lib.hid hl; clear hl)
  clear hke
  go_enter Tryz.func63, Tryz.ntmps63
  go_upto_region 1 with fail
  obtain ⟨W1, hW1⟩ : ∃ W1, W1 = w.alloc (.cells #[.int .i64 p.me, .slice A n c, .int .i64 p.time, .int .i64 p.seq] 25) := ⟨_, rfl⟩
  obtain ⟨b, hb⟩ : ∃ b, b = w.heap.size := ⟨_, rfl⟩
  have hbx : W1.heap[b]? = some (.cells #[.int .i64 p.me, .slice A n c, .int .i64 p.time, .int .i64 p.seq] 25 (0, 0)) := by rw [hW1]; exact heap_new hb
  have HF1 : Hid (Fr w W1) := by rw [hW1]; exact frAlloc _ _
  rw [← hW1, ← hb]
  clear hW1 hb
  (obtain ⟨bx0, bx1, bx2, bx3⟩ := box4_ hbx)
  have HBX := Lib.hid hbx
  clear hbx
  go_cut [33] (fun s33 wx => ∃ B : Bool, s33 = .bool B ∧ Hid (B = true ↔ (p.me < 0 ∨ 4 ≤ p.me ∨ p.time < 0 ∨ 1000000 < p.time ∨ p.seq < 0 ∨ 50 < p.seq)) ∧ wx = W1)
  case first =>
    clear E
    go_wp2_with fail
    all_goals (try simp only [beq_iff_eq, bne_iff_ne, beq_eq_false_iff_ne, bne_eq_false_iff_eq, ne_eq, Decidable.not_not, Int.natCast_inj, Bool.or_eq_true, Bool.and_eq_true, Bool.or_eq_false_iff, Bool.and_eq_false_iff, Bool.not_eq_true', Bool.not_eq_false', decide_eq_true_eq, decide_eq_false_iff_not, Bool.not_eq_true, Bool.not_eq_false] at *)
    all_goals go_meet
    all_goals exact ⟨_, rfl, by unfold Hid; simp; omega, rfl⟩
  case rest =>
    obtain ⟨B1, rfl, HB1, hwc⟩ := hcut
    rw [hwc]
    clear hwc
    cases B1 with
    | true =>
      have E1 := Lib.hid (E.out.trans (if_pos (HB1.out.1 rfl)))
      clear E
      go_wp2_with fail
      go_ret
      exact ⟨retI E1.out.symm, HF1.out⟩
    | false =>
      have E1 := Lib.hid (E.out.trans (if_neg (fun e => absurd (HB1.out.2 e) (by simp))))
      clear E HB1
      by_cases h12 : 12 < n
      case pos =>
        have E2 := Lib.hid (E1.out.trans (if_pos h12))
        clear E1
        go_wp2_with fail
        go_ret
        exact ⟨retI E2.out.symm, HF1.out⟩
      case neg =>
      have E2 := Lib.hid (E1.out.trans (if_neg h12))
      clear E1
      go_wp2_with fail
      clear bx0 bx1 bx2 bx3
      go_loopw [41] (fun i wr => ∃ k : Nat, k ≤ n ∧ i = .int .i64 k ∧ Hid (ke = keepsErr p.me p.time p.seq (prevH p.keep k) (p.keep.drop k)) ∧ Hid (Fr W1 wr)) (fun i _ => n - (intOf i).toNat)
      case atStart => exact ⟨0, Nat.zero_le _, rfl, HKE, Below.refl _ _⟩
      case round =>
        obtain ⟨k, hk, rfl, HS, HF⟩ := hrel
        have hbw := blk_go HBX.out HF.out
        (obtain ⟨bx0, bx1, bx2, bx3⟩ := box4_ hbw)
        clear hbw
        by_cases hlt : k < n
        · have HT := Lib.hid (H.out.go sKp (HF1.out.trans HF.out))
          obtain ⟨ad, rfl, hE⟩ := HT.out.els (by omega)
          obtain ⟨x, hx, hr⟩ := hE.row hlt
          obtain ⟨A1, n1, c1, A2, n2, c2, A3, n3, c3, ⟨m0, m1, m2, m3, m4, m5, m6, m7, m8, m9, m10, m11, m12, m13, m14, m15⟩, hw, hC, hS, hT⟩ := eKp_at hr
          have HK : Hid (KpR wr (LT wr.heap.size) A1 n1 c1 A2 n2 c2 A3 n3 c3 x) := ⟨hw, hC, hS, hT⟩
          obtain ⟨kc, hkc⟩ : ∃ kc, kc = keptCheck x p.me p.time := ⟨_, rfl⟩
          have HS2 := Lib.hid (HS.out.trans (keepsErr_step hx))
          rw [← hkc] at HS2
          have KC : Hid (∀ W, Fr wr W → Calls Tryz.prog 98 #[.agg #[.int .i64 x.h.frm, .int .i64 x.h.seq, .int .i64 x.h.to, .int .i64 x.h.till, .int .i64 x.h.bytes, .int .i64 x.h.block, .bool x.own, .slice A1 n1 c1, .slice A2 n2 c2, .int .i64 x.shares, .int .i64 x.giving, .int .i64 x.towards, .int .i64 x.try_, .slice A3 n3 c3, .bool x.delivered, .bool x.purged], .int .i64 p.me, .int .i64 p.time] W fun e w' => e = .returned (.int .i64 kc) ∧ Fr W w') := fun W hf => by rw [hkc]; exact kept_any W x p.me p.time _ _ _ _ _ _ _ _ _ (HK.out.go hf)
          clear HS hkc hw hC hS hT hr hE
          (have Hx := Lib.hid hx; clear hx)
          go_upto_region 8 with fail
          obtain ⟨W5, hW5⟩ : ∃ W5, W5 = wr.alloc (.cells #[.int .i64 x.h.frm, .int .i64 x.h.seq, .int .i64 x.h.to, .int .i64 x.h.till, .int .i64 x.h.bytes, .int .i64 x.h.block, .bool x.own, .slice A1 n1 c1, .slice A2 n2 c2, .int .i64 x.shares, .int .i64 x.giving, .int .i64 x.towards, .int .i64 x.try_, .slice A3 n3 c3, .bool x.delivered, .bool x.purged] 96) := ⟨_, rfl⟩
          obtain ⟨q5, hq5⟩ : ∃ q5, q5 = wr.heap.size := ⟨_, rfl⟩
          have hQ5 : W5.heap[q5]? = some (.cells #[.int .i64 x.h.frm, .int .i64 x.h.seq, .int .i64 x.h.to, .int .i64 x.h.till, .int .i64 x.h.bytes, .int .i64 x.h.block, .bool x.own, .slice A1 n1 c1, .slice A2 n2 c2, .int .i64 x.shares, .int .i64 x.giving, .int .i64 x.towards, .int .i64 x.try_, .slice A3 n3 c3, .bool x.delivered, .bool x.purged] 96 (0, 0)) := by rw [hW5]; exact heap_new hq5
          have hF5 : Fr wr W5 := by rw [hW5]; exact frAlloc _ _
          have hX5 := blk_go (blk_go HBX.out HF.out) hF5
          have HF5 := Lib.hid hF5
          rw [← hW5, ← hq5]
          clear hW5 hq5 hF5 bx0 bx1 bx2 bx3 m0 m1 m2 m3 m4 m5 m6 m7 m8 m9 m10 m11 m12 m13 m14 m15
          (obtain ⟨bx0, bx1, bx2, bx3⟩ := box4_ hX5)
          (obtain ⟨bq0, bq1, bq2, bq3, bq4, bq5, bq6, bq7, bq8, bq9, bq10, bq11, bq12, bq13, bq14, bq15⟩ := box16_ hQ5)
          (have HX5 := Lib.hid hX5; clear hX5; have HQ5 := Lib.hid hQ5; clear hQ5)
          go_wp2_with fail
          (with_reducible refine (KC.out _ HF5.out).mono ?_)
          rintro e w6 ⟨rfl, hf6⟩
          have hX6 := blk_go HX5.out hf6
          have hQ6 := blk_go HQ5.out hf6
          have HF6 : Hid (Fr wr w6) := HF5.out.trans hf6
          clear bx0 bx1 bx2 bx3 bq0 bq1 bq2 bq3 bq4 bq5 bq6 bq7 bq8 bq9 bq10 bq11 bq12 bq13 bq14 bq15 HX5 HQ5 hf6 HF5 KC
          (obtain ⟨bx0, bx1, bx2, bx3⟩ := box4_ hX6)
          (obtain ⟨bq0, bq1, bq2, bq3, bq4, bq5, bq6, bq7, bq8, bq9, bq10, bq11, bq12, bq13, bq14, bq15⟩ := box16_ hQ6)
          (have HX6 := Lib.hid hX6; clear hX6; have HQ6 := Lib.hid hQ6; clear hQ6)
          by_cases h9 : kc = 0
          case neg =>
            have t9 : (kc != 0) = true := by simp [h9]
            have HS3 : Hid (ke = kc) := HS2.out.trans (if_pos h9)
            have E5 : Hid (placeCheck p = kc) := E2.out.trans HS3.out
            clear h9 E2 HS2 HS3
            go_wp2_with fail
            go_ret
            exact ⟨retI E5.out.symm, (HF1.out.trans HF.out).trans HF6.out⟩
          case pos =>
          have t9 : (kc != 0) = false := by simp [h9]
          have HS3 := Lib.hid (HS2.out.trans (if_neg (fun e => e h9)))
          clear h9 HS2
          go_upto_region 11 with fail
          go_cut [64] (fun s64 wx => ∃ B : Bool, s64 = .bool B ∧ Hid (B = true ↔ (x.own = true ∧ p.seq ≤ x.h.seq)) ∧ wx = w6)
          case first =>
            clear E2 HS3
            go_wp2_with fail
            all_goals (try simp only [beq_iff_eq, bne_iff_ne, beq_eq_false_iff_ne, bne_eq_false_iff_eq, ne_eq, Decidable.not_not, Int.natCast_inj, Bool.or_eq_true, Bool.and_eq_true, Bool.or_eq_false_iff, Bool.and_eq_false_iff, Bool.not_eq_true', Bool.not_eq_false', decide_eq_true_eq, decide_eq_false_iff_not, Bool.not_eq_true, Bool.not_eq_false] at *)
            all_goals go_meet
            all_goals exact ⟨_, rfl, by unfold Hid; first | (simp; done) | (simp [*]; done) | (simp_all; done) | (simp_all; omega), rfl⟩
          case rest =>
            obtain ⟨B2, rfl, HB2, hwc⟩ := hcut
            rw [hwc]
            clear hwc
            cases B2 with
            | true =>
              have HS4 : Hid (ke = 4) := HS3.out.trans (if_pos (HB2.out.1 rfl))
              have E5 : Hid (placeCheck p = 4) := E2.out.trans HS4.out
              clear E2 HS3 HS4
              go_wp2_with fail
              go_ret
              exact ⟨retI E5.out.symm, (HF1.out.trans HF.out).trans HF6.out⟩
            | false =>
              have HS4 := Lib.hid (HS3.out.trans (if_neg (fun e => absurd (HB2.out.2 e) (by simp))))
              clear HS3 HB2
              rcases Nat.eq_zero_or_pos k with hk0 | hk0
              · subst hk0
                have HS5 : Hid (ke = keepsErr p.me p.time p.seq (prevH p.keep 1) (p.keep.drop 1)) := by rw [Hid, HS4.out, prevH_zero]; simp
                clear HS4
                go_wp2_with fail
                go_quiet (fail)
                go_wp2_with fail
                go_roundw
                case rel => exact ⟨1, by omega, by go_num, HS5, by (repeat' (first | exact Below.refl _ _ | refine below_drewN ?_ _ | refine Below.drew ?_ | refine frA ?_ _ | refine Fr.trans ?_ HF6.out | refine Fr.trans ?_ HF.out))⟩
                case measure => simp [intOf]; omega
              · obtain ⟨j, rfl⟩ : ∃ j, k = j + 1 := ⟨k - 1, by omega⟩
                obtain ⟨ad', e1, hE⟩ := (HT.out.go sKp HF6.out).els (by omega)
                injection e1 with e1
                subst e1
                obtain ⟨y, hy, hr⟩ := hE.row (show j < n by omega)
                obtain ⟨A4, n4, c4, A5, n5, c5, A6, n6, c6, ⟨m0, m1, m2, m3, m4, m5, m6, m7, m8, m9, m10, m11, m12, m13, m14, m15⟩, _⟩ := eKp_at hr
                obtain ⟨q, hq⟩ : ∃ q, q = aheadB y.h x.h := ⟨_, rfl⟩
                have HS5 : Hid (ke = if (!q) = true then 6 else keepsErr p.me p.time p.seq (prevH p.keep (j + 1 + 1)) (p.keep.drop (j + 1 + 1))) := by rw [Hid, HS4.out, prevH_succ hy, hq]; simp
                have AH : Hid (∀ W, Calls Tryz.prog 99 #[.agg #[.int .i64 y.h.frm, .int .i64 y.h.seq, .int .i64 y.h.to, .int .i64 y.h.till, .int .i64 y.h.bytes, .int .i64 y.h.block], .agg #[.int .i64 x.h.frm, .int .i64 x.h.seq, .int .i64 x.h.to, .int .i64 x.h.till, .int .i64 x.h.bytes, .int .i64 x.h.block]] W fun e w' => e = .returned (.bool q) ∧ Fr W w') := fun W => by rw [hq]; exact ahead_any W _ _
                clear HS4 hq hy hr hE m6 m7 m8 m9 m10 m11 m12 m13 m14 m15 HT HK
                have hSC : Hid (∀ w', Fr w6 w' → w'.cell? ⟨b, 1, none⟩ = some (.slice (some ad) n c) ∧ w'.cell? (ad.add (j * 16)) = some (.int .i64 y.h.frm) ∧ w'.cell? ⟨(ad.add (j * 16)).block, (ad.add (j * 16)).off + 1, none⟩ = some (.int .i64 y.h.seq) ∧ w'.cell? ⟨(ad.add (j * 16)).block, (ad.add (j * 16)).off + 2, none⟩ = some (.int .i64 y.h.to) ∧ w'.cell? ⟨(ad.add (j * 16)).block, (ad.add (j * 16)).off + 3, none⟩ = some (.int .i64 y.h.till) ∧ w'.cell? ⟨(ad.add (j * 16)).block, (ad.add (j * 16)).off + 4, none⟩ = some (.int .i64 y.h.bytes) ∧ w'.cell? ⟨(ad.add (j * 16)).block, (ad.add (j * 16)).off + 5, none⟩ = some (.int .i64 y.h.block) ∧ w'.cell? ⟨q5, 0, none⟩ = some (.int .i64 x.h.frm) ∧ w'.cell? ⟨q5, 1, none⟩ = some (.int .i64 x.h.seq) ∧ w'.cell? ⟨q5, 2, none⟩ = some (.int .i64 x.h.to) ∧ w'.cell? ⟨q5, 3, none⟩ = some (.int .i64 x.h.till) ∧ w'.cell? ⟨q5, 4, none⟩ = some (.int .i64 x.h.bytes) ∧ w'.cell? ⟨q5, 5, none⟩ = some (.int .i64 x.h.block)) := fun w' hf => ⟨(hf.cell (World.block_lt_of_cell? w6 _ bx1)).trans bx1, (hf.cell (World.block_lt_of_cell? w6 _ m0)).trans m0, (hf.cell (World.block_lt_of_cell? w6 _ m1)).trans m1, (hf.cell (World.block_lt_of_cell? w6 _ m2)).trans m2, (hf.cell (World.block_lt_of_cell? w6 _ m3)).trans m3, (hf.cell (World.block_lt_of_cell? w6 _ m4)).trans m4, (hf.cell (World.block_lt_of_cell? w6 _ m5)).trans m5, (hf.cell (World.block_lt_of_cell? w6 _ bq0)).trans bq0, (hf.cell (World.block_lt_of_cell? w6 _ bq1)).trans bq1, (hf.cell (World.block_lt_of_cell? w6 _ bq2)).trans bq2, (hf.cell (World.block_lt_of_cell? w6 _ bq3)).trans bq3, (hf.cell (World.block_lt_of_cell? w6 _ bq4)).trans bq4, (hf.cell (World.block_lt_of_cell? w6 _ bq5)).trans bq5⟩
                have hj1 : ((j + 1 : Nat) : Int) - 1 = (j : Int) := by omega
                have hjn : j < n := by omega
                have hjn2 : (j : Int) < (n : Int) := by omega
                have hwj : IntKind.i64.wrap (j : Int) = (j : Int) := by rw [IntKind.wrap_i64]; omega
                clear bx0 bx1 bx2 bx3 bq0 bq1 bq2 bq3 bq4 bq5 bq6 bq7 bq8 bq9 bq10 bq11 bq12 bq13 bq14 bq15 m0 m1 m2 m3 m4 m5 HX6 HQ6 t9
                go_upto_region 13 with fail
                refine held_begin (n := 15) (bs := #[false, false, false, false, false, false, false, false, false, false, false, false, false, false, false]) rfl rfl (by kernel_rfl) (S := fun w' => w'.cell? ⟨b, 1, none⟩ = some (.slice (some ad) n c) ∧ w'.cell? (ad.add (j * 16)) = some (.int .i64 y.h.frm) ∧ w'.cell? ⟨(ad.add (j * 16)).block, (ad.add (j * 16)).off + 1, none⟩ = some (.int .i64 y.h.seq) ∧ w'.cell? ⟨(ad.add (j * 16)).block, (ad.add (j * 16)).off + 2, none⟩ = some (.int .i64 y.h.to) ∧ w'.cell? ⟨(ad.add (j * 16)).block, (ad.add (j * 16)).off + 3, none⟩ = some (.int .i64 y.h.till) ∧ w'.cell? ⟨(ad.add (j * 16)).block, (ad.add (j * 16)).off + 4, none⟩ = some (.int .i64 y.h.bytes) ∧ w'.cell? ⟨(ad.add (j * 16)).block, (ad.add (j * 16)).off + 5, none⟩ = some (.int .i64 y.h.block) ∧ w'.cell? ⟨q5, 0, none⟩ = some (.int .i64 x.h.frm) ∧ w'.cell? ⟨q5, 1, none⟩ = some (.int .i64 x.h.seq) ∧ w'.cell? ⟨q5, 2, none⟩ = some (.int .i64 x.h.to) ∧ w'.cell? ⟨q5, 3, none⟩ = some (.int .i64 x.h.till) ∧ w'.cell? ⟨q5, 4, none⟩ = some (.int .i64 x.h.bytes) ∧ w'.cell? ⟨q5, 5, none⟩ = some (.int .i64 x.h.block)) (hSC.out _ (Below.refl _ _).drew) (fun hHeld => ?_)
                ((first | refine held_sk (i := 0) ?_ | refine held_tk (i := 0) ?_); (first | refine held_sk (i := 1) ?_ | refine held_tk (i := 1) ?_); (first | refine held_sk (i := 2) ?_ | refine held_tk (i := 2) ?_); (first | refine held_sk (i := 3) ?_ | refine held_tk (i := 3) ?_); (first | refine held_sk (i := 4) ?_ | refine held_tk (i := 4) ?_); (first | refine held_sk (i := 5) ?_ | refine held_tk (i := 5) ?_); (first | refine held_sk (i := 6) ?_ | refine held_tk (i := 6) ?_); (first | refine held_sk (i := 7) ?_ | refine held_tk (i := 7) ?_); (first | refine held_sk (i := 8) ?_ | refine held_tk (i := 8) ?_); (first | refine held_sk (i := 9) ?_ | refine held_tk (i := 9) ?_); (first | refine held_sk (i := 10) ?_ | refine held_tk (i := 10) ?_); (first | refine held_sk (i := 11) ?_ | refine held_tk (i := 11) ?_))
                refine held_one (i := 12) rfl (by kernel_rfl) (fun K hK => ?_)
                go_simp
                go_at_call 99
                (with_reducible refine (AH.out _).mono ?_)
                rintro e w7 ⟨rfl, hf7⟩
                have hf67 : Fr w6 w7 := Fr.trans (Below.refl _ _).drew hf7
                (refine held_back hK (a' := ?hA1) (l' := ?hL1) ?ha1 ?hl1 (hSC.out _ hf67) (fun hHeld => ?hh1); (case ha1 => first | with_reducible rfl | (simp only [Act.put, hq1, hq2, hq3, Option.isNone, Bool.not_true, Bool.not_false]; (try with_reducible rfl))); (case hl1 => (simp only [Act.put, hq1, hq2, hq3, Option.isNone, Bool.not_true, Bool.not_false]; (try with_reducible rfl))); clear hK K)
                ((first | refine held_sk (i := 13) ?_ | refine held_tk (i := 13) ?_); (first | refine held_sk (i := 14) ?_ | refine held_tk (i := 14) ?_))
                refine wpAnyH_done (by kernel_rfl) ?_ _
                cases q with
                | true =>
                  have HS6 : Hid (ke = keepsErr p.me p.time p.seq (prevH p.keep (j + 1 + 1)) (p.keep.drop (j + 1 + 1))) := by rw [Hid, HS5.out, if_neg (by simp)]
                  clear HS5 hSC hHeld AH
                  go_wp2_with fail
                  go_roundw
                  case rel => exact ⟨j + 1 + 1, by omega, by go_num, HS6, (HF.out.trans HF6.out).trans hf67⟩
                  case measure => simp [intOf]; omega
                | false =>
                  have HS6 : Hid (ke = 6) := by rw [Hid, HS5.out, if_pos (by simp)]
                  have E5 : Hid (placeCheck p = 6) := E2.out.trans HS6.out
                  clear HS5 hSC hHeld AH
                  go_wp2_with fail
                  go_ret
                  exact ⟨retI E5.out.symm, (HF1.out.trans HF.out).trans (HF6.out.trans hf67)⟩
        · have HE : Hid (ke = 0) := by
            rw [Hid, HS.out, List.drop_eq_nil_of_le (by have := Hl.out; omega)]; rfl
          have E5 : Hid (placeCheck p = 0) := E2.out.trans HE.out
          clear E2 HS
          go_wp2_with fail
          go_ret
          exact ⟨retI E5.out.symm, HF1.out.trans HF.out⟩
end Go.Proofs.YtmiaplgfbphfmaaGreatDoor
