/- 'SolveKnown', walked. No condition. -/
import Derived.Test.YtnfjghldcopaaaaSolveKeeps
import Derived.Test.YtnfjghldcopaaaaDecP
import Derived.Test.YtnfjghldcopaaaaSyms
import Derived.Test.YtnfjghldcopaaaaPickE
set_option linter.unusedSimpArgs false
set_option linter.unusedVariables false
namespace Go.Proofs.Ytnfjghldcopaaaa
open Go.RowKit
attribute [local irreducible] wpList

set_option maxRecDepth 100000 in
set_option maxHeartbeats 4000000 in
theorem solveKnown_good (w : World) (K : Nat) (A : Option Addr) (n c : Nat) (cargo : List UInt8) (h : Sl 1 eByte w (LT w.heap.size) A n cargo) (hnc : n ≤ c) (hcm : c ≤ maxLen) (A2 : Option Addr) (n2 c2 : Nat) (ids : List Int) (h2 : Sl 1 eInt w (LT w.heap.size) A2 n2 ids) (hnc2 : n2 ≤ c2) (hcm2 : c2 ≤ maxLen) (hck : cutCheck n K = 0) :
    Calls Try.prog 5 #[.agg #[.int .i64 n, .int .i64 K], .slice A n c, .slice A2 n2 c2] w fun e w' => e = .returned (.bool true) ∧ Fr w w' := by
  have hl := h.1
  obtain ⟨q1, q2, q3, hall, hK⟩ := cutF_facts hck hl
  have hn : 1 ≤ n ∧ n ≤ 360 := by have := (cutCheck_ok hck).1; omega
  have hxs := symsOf_ok hck hl ids
  have hxl := length_symsOf n K cargo ids
  obtain ⟨XS, hXS⟩ : ∃ XS, XS = symsOf n K cargo ids := ⟨_, rfl⟩
  have CU : Hid (cutUp n K cargo = (cutF K n cargo, 0)) := cutUp_ok hck hl
  obtain ⟨BL, hBL⟩ : ∃ BL, BL = cutF K n cargo := ⟨_, rfl⟩
  have hsym : Hid (∀ s ∈ XS, Fit BL.length K (symRow BL.length s) ∧ Hold BL (vc (symRow BL.length s)) ∧ 0 ≤ s.id ∧ s.id ≤ 9999) := fun s hs => by
    rw [hXS] at hs
    have := symOk_hold hck hl (hxs s hs)
    rw [← hBL] at this
    exact ⟨this.1, this.2, (hxs s hs).id⟩
  rw [← hXS] at hxl
  have HXS := Lib.hid hXS
  rw [← hBL] at q1 q2 q3 hall CU
  obtain ⟨b, hb⟩ : ∃ b, b = BL.length := ⟨_, rfl⟩
  rw [← hb] at q1 q2 hsym
  have HALL := Lib.hid hall
  have hBb := Lib.hid hb
  obtain ⟨K1, K2⟩ := hK
  obtain ⟨n1', n2'⟩ := hn
  have wn : wfI (n : Int) := wfI.mk (by omega)
  have wK : wfI (K : Int) := wfI.mk (by omega)
  have wb : wfI (b : Int) := wfI.mk (by omega)
  have EN : Hid (sysNew b K = (⟨b, K, []⟩, 0)) := by
    unfold sysNew Hid
    rw [if_neg (by simp [sysCheck_of (rows := []) (by omega : 1 ≤ b ∧ b ≤ 24) (by omega : 1 ≤ K ∧ K ≤ 16) (made_nil b K).sys])]
  (have H := Lib.hid h; clear h; have H2 := Lib.hid h2; clear h2)
  clear hl hck hBL hxs hXS hall hb q3
  go_enter Try.func5, Try.ntmps5
  go_wp2_with fail
  (with_reducible refine (cutCut_any _ _ _ _ _ _ cargo (H.out.go sByte (by (repeat' (first | exact Below.refl _ _ | refine below_drewN ?_ _ | refine Below.drew ?_ | refine frA ?_ _)))) hnc hcm wn wK).mono ?_)
  rw [CU.out]
  rintro e v1 ⟨v, rfl, ho, hf⟩
  obtain ⟨A7, c7, rfl, ⟨hc7, hm7⟩, hs7⟩ := ho.slC wBlock (by decide)
  rw [← hBb.out] at hc7 hs7 ⊢
  have hp1 : v1.heap[w.heap.size]? = some (.cells #[.int .i64 n, .int .i64 K] 47 (0, 0)) := blk_go (by (repeat' (with_reducible (first | (refine heap_new ?_; (first | (simp; done) | rfl); done) | refine heap_dn ?_ | refine heap_d ?_ | refine heap_old ?_)))) hf
  have HF1 : Hid (Fr w v1) := Fr.trans (by (repeat' (first | exact Below.refl _ _ | refine below_drewN ?_ _ | refine Below.drew ?_ | refine frA ?_ _))) hf
  have HS7 := Lib.hid hs7
  have HP1 := Lib.hid hp1
  clear ho hf hs7 hp1
  go_wp2_with fail
  (with_reducible refine (solved_any _).mono ?_)
  rintro e v2 ⟨rfl, hf⟩
  have hp2 := blk_go HP1.out hf
  (obtain ⟨x0, x1⟩ := box2_ hp2)
  have HP2 := Lib.hid hp2
  have HF2 : Hid (Fr v1 v2) := hf
  clear hf hp2 HP1
  go_wp2_with fail
  (with_reducible refine (solNew_any _ b K wb wK).mono ?_)
  rw [EN.out]
  rintro e v3 ⟨rfl, hf⟩
  have HF3 : Hid (Fr v1 v3) := HF2.out.trans hf
  have HP3 := Lib.hid (blk_go HP2.out hf)
  have hp3 := HP3.out
  (obtain ⟨x0, x1⟩ := box2_ hp3)
  clear hf hp3 HP2 HF2
  go_upto_region 8 with fail
  obtain ⟨p9, hp9⟩ : ∃ p9, p9 = v3.heap.size := ⟨_, rfl⟩
  obtain ⟨W4, hW4⟩ : ∃ W4, W4 = v3.alloc (.cells #[.int .i64 b, .int .i64 K, .slice none 0 0] 24) := ⟨_, rfl⟩
  have HB4 : Hid (W4.heap[p9]? = some (.cells #[.int .i64 b, .int .i64 K, .slice none 0 0] 24 (0, 0))) := by rw [hW4]; exact heap_new hp9
  have HP4 : Hid (W4.heap[w.heap.size]? = some (.cells #[.int .i64 n, .int .i64 K] 47 (0, 0))) := by rw [hW4]; exact heap_old HP3.out
  have HF4 : Hid (Fr v1 W4) := by rw [hW4]; exact HF3.out.trans (frAlloc _ _)
  have hwp : w.heap.size < p9 := by rw [hp9]; exact (Array.getElem?_eq_some_iff.1 HP3.out).1
  have hp9v : v1.heap.size ≤ p9 := by rw [hp9]; exact HF3.out.size
  rw [← hW4, ← hp9]
  clear hW4 hp9 HP3 HF3 x0 x1
  have hp4 := HP4.out
  (obtain ⟨x0, x1⟩ := box2_ hp4)
  clear hp4
  go_wp2_with fail
  (with_reducible refine (symbols_any _ _ _ wn wK _ _ _ cargo (H.out.go sByte (HF1.out.trans HF4.out)) hnc hcm _ _ _ ids (H2.out.go sInt (HF1.out.trans HF4.out)) hnc2 hcm2).mono ?_)
  rw [← HXS.out]
  rintro e v5 ⟨v, rfl, ho, hf⟩
  obtain ⟨A8, c8, rfl, ⟨hc8, hm8⟩, hs8⟩ := ho.toNw sSm
  have HB5 := Lib.hid (blk_go HB4.out hf)
  have HF5 : Hid (Fr v1 v5) := HF4.out.trans hf
  have HS8 := Lib.hid hs8
  have H9 : Hid (p9 < W4.heap.size) := (Array.getElem?_eq_some_iff.1 HB4.out).1
  have hp5 : p9 < v5.heap.size := (Array.getElem?_eq_some_iff.1 HB5.out).1
  obtain ⟨L, hL⟩ : ∃ L, L = XS.length := ⟨_, rfl⟩
  have HL := Lib.hid hL
  rw [← hL] at hxl hc8 HS8 ⊢
  clear ho hf hs8 HB4 HP4 x0 x1 hL
  go_wp2_with fail
  go_loopw [10, 49] (fun s10 s49 wr => ∃ (i : Nat) (rows : List Rw) (A9 : Option Addr) (n9 c9 : Nat), i ≤ L ∧ s49 = .int .i64 i ∧ s10 = .int .i64 n9 ∧ Hid (wr.heap[p9]? = some (.cells #[.int .i64 b, .int .i64 K, .slice A9 n9 c9] 24 (0, 0))) ∧ (n9 ≤ 24 ∧ n9 ≤ c9 ∧ c9 ≤ maxLen) ∧ Hid (Sl 2 eRw wr (LT wr.heap.size) A9 n9 rows) ∧ Hid (Made b K (XS.take i) rows) ∧ Hid (Fr v1 wr) ∧ Hid (Chg (fun x => x = p9) v5 wr)) (fun _ i _ => L - (intOf i).toNat)
  case atStart => exact ⟨0, [], none, 0, 0, Nat.zero_le _, rfl, rfl, HB5, ⟨by omega, by omega, by unfold maxLen; omega⟩, Sl.nil, by rw [List.take_zero]; exact made_nil b K, HF5, Chg.refl _ _⟩
  case round =>
    obtain ⟨i, rows, A9, n9, c9, hi, rfl, rfl, HB, ⟨hn9, hc9, hm9⟩, HR, HM, HF, HC⟩ := hrel
    by_cases hlt : i < L
    · have hr8 : Sl 2 eSm wr (LT wr.heap.size) A8 L XS := (HS8.out.chg sSm HC.out fun b hb => ⟨hb.2, fun e => by have := hb.1; rw [e] at this; have := H9.out; omega⟩).more sSm fun b hb => Nat.lt_of_lt_of_le hb.2 HC.out.size
      obtain ⟨ad, rfl, hE⟩ := hr8.els (by omega)
      obtain ⟨x, hx, hrx⟩ := hE.row hlt
      obtain ⟨A3, n3, c3, ⟨m0, m1⟩, wx, ⟨k1, k2, k3⟩, hby⟩ := eSm_iff.1 hrx
      have m0 : wr.cell? (ad.add (i * 2)) = some (.int .i64 x.id) := by simpa [Addr.add] using m0
      have m1 : wr.cell? ⟨(ad.add (i * 2)).block, (ad.add (i * 2)).off + 1, none⟩ = some (.slice A3 n3 c3) := by simpa [Addr.add] using m1
      obtain ⟨hfx, hhx, hid1, hid2⟩ := hsym.out x (List.mem_of_getElem? hx)
      have hspan : ∀ v, Sp (pl rows) v → Hold BL v := fun v hv => Hold.span (fun g ⟨y, hy, e⟩ => by rw [e]; exact (hsym.out y (List.mem_of_mem_take hy)).2.1) ((HM.out.span v).1 hv)
      obtain ⟨rows', mo, hadd⟩ := hold_add (by omega) ⟨K1, K2⟩ HM.out.sys hfx hspan hhx
      obtain ⟨hmade, hlen'⟩ := made_snoc (by omega) ⟨K1, K2⟩ HM.out hfx hadd
      rw [← take_snoc' hx] at hmade
      have hn9' : rows.length = n9 := HR.out.1
      have hcard := hmade.sys.card
      have EA := Lib.hid hadd
      have HM' := Lib.hid hmade
      have hspan' : Hid (∀ v, Sp (pl rows') v → Hold BL v) := fun v hv => Hold.span (fun g ⟨y, hy, e⟩ => by rw [e]; exact (hsym.out y (List.mem_of_mem_take hy)).2.1) ((hmade.span v).1 hv)
      have EP : Hid (pickOf x.id (b : Nat) = (pickHas x.id.toNat b, 0)) := by
        unfold pickOf Hid
        rw [if_pos (by omega), Int.toNat_natCast]
      have hbw := HB.out
      (obtain ⟨y0, y1, y2⟩ := box3_ hbw)
      have HBY := Lib.hid hby
      obtain ⟨q, hq⟩ : ∃ q, q = wr.heap.size := ⟨_, rfl⟩
      have hpq : p9 < wr.heap.size := (Array.getElem?_eq_some_iff.1 HB.out).1
      have y0' := y0
      (have Hlen' := Lib.hid hlen'; clear hlen'; have Hn9' := Lib.hid hn9'; clear hn9'; have Hx := Lib.hid hx; clear hx; have Hcard := Lib.hid hcard; clear hcard)
      clear hr8 hE hrx hfx hhx hspan hadd hmade hby hbw wx
      go_wp2_with fail
      (with_reducible refine (pick_eq _ _ _ hid1 hid2 q1 q2).mono ?_)
      rintro e v6 ⟨A6, c6, rfl, hs6, hf⟩
      rw [← hq]
      have hx6 : v6.heap[q]? = some (.cells #[.int .i64 x.id, .slice A3 n3 c3] 53 (0, 0)) := blk_go (heap_new hq) hf
      have hb6 := blk_go (heap_old (o := .cells #[.int .i64 x.id, .slice A3 n3 c3] 53) HB.out) hf
      have HF6 : Hid (Fr wr v6) := (frAlloc _ _).trans hf
      have HS6 := Lib.hid hs6
      have HX6 := Lib.hid hx6
      have HB6 := Lib.hid hb6
      (obtain ⟨z0, z1⟩ := box2_ hx6)
      (obtain ⟨y0, y1, y2⟩ := box3_ hb6)
      have hrm : n9 ≤ maxLen := by omega
      clear hf hs6 hx6 hb6 m0 m1 y0' hq
      go_wp2_with fail
      (with_reducible refine (solAdd_eq _ _ _ wb wK _ _ _ rows (HR.out.go sRw HF6.out) hrm (symRow b x) _ _ _ _ _ _ HS6.out (HBY.out.go sByte HF6.out) _ _ _ _ _ EA.out).mono ?_)
      rintro e v7 ⟨A10, n10, c10, rfl, ⟨hn10, hc10, hm10⟩, hs10, hf⟩
      obtain ⟨p15, hp15⟩ : ∃ p, p = v7.heap.size := ⟨_, rfl⟩
      have hb7 := blk_go HB6.out hf
      have HF7 : Hid (Fr wr v7) := HF6.out.trans hf
      (obtain ⟨y0, y1, y2⟩ := box3_ hb7)
      have yf0 := blk_free (i := 0) hb7
      have yf1 := blk_free (i := 1) hb7
      have yf2 := blk_free (i := 2) hb7
      have hbl7 := (Array.getElem?_eq_some_iff.1 hb7).1
      obtain ⟨W8, hW8⟩ : ∃ W8, W8 = (((v7.setCell ⟨p9, 0, none⟩ (.int .i64 b)).setCell ⟨p9, 1, none⟩ (.int .i64 K)).setCell ⟨p9, 2, none⟩ (.slice A10 n10 c10)).alloc (.cells #[.int .i64 b, .int .i64 K, .slice A10 n10 c10] 24) := ⟨_, rfl⟩
      have HB8 : Hid (W8.heap[p9]? = some (.cells #[.int .i64 b, .int .i64 K, .slice A10 n10 c10] 24 (0, 0))) := by rw [hW8]; exact heap_old (stor3_ hb7)
      have hp96 : p9 < v6.heap.size := (Array.getElem?_eq_some_iff.1 HB6.out).1
      have hC8 : Chg (fun x => x = p9) v7 W8 := by rw [hW8]; exact (Chg.of (grw3_ ⟨rfl, rfl, rfl, Nat.le_refl _, fun _ _ _ => rfl⟩)).trans (frAlloc _ _).chg
      have HR8 : Hid (Sl 2 eRw W8 (LT W8.heap.size) A10 n10 rows') := by
        have q2 := hs10.chg sRw hC8 fun bb hb => ⟨hb.2, fun e => by have := hb.1; omega⟩
        exact q2.more sRw fun bb hb => Nat.lt_of_lt_of_le hb.2 hC8.size
      have HC8 : Hid (Chg (fun x => x = p9) v5 W8) := (HC.out.trans HF7.out.chg).trans hC8
      have HF8 : Hid (Fr v1 W8) := hC8.fr (HF.out.trans HF7.out) fun bb hb => by rw [hb]; exact hp9v
      have hn10' : rows'.length = n10 := hs10.1
      have HN : Hid ((n10 : Int) = (n9 : Int) + (if mo then 1 else 0)) := by
        have := Hlen'.out; rw [hn10', Hn9'.out] at this; rw [Hid, this]; cases mo <;> simp
      have hnb : n10 ≤ b := by have := Hcard.out; omega
      have HW8 := Lib.hid hW8
      clear hf hb7 hs10 hC8 hW8 hp15 HB6 HX6 z0 z1 HS6 HBY hn10'
      go_upto_if 78 with fail
      go_cut [10] (fun s10 wx => s10 = .int .i64 n10 ∧ wx = W8)
      case first =>
        cases mo with
        | false =>
          go_wp2_with fail
          go_meet
          exact ⟨by have := HN.out; simp at this; rw [this], HW8.out.symm⟩
        | true =>
          go_wp2_with fail
          go_meet
          exact ⟨by have := HN.out; simp at this; rw [this], HW8.out.symm⟩
      case rest =>
        obtain ⟨rfl, rfl⟩ := hcut
        clear HN HW8 yf0 yf1 yf2 hbl7 y0 y1 y2
        have hb8 := HB8.out
        (obtain ⟨y0, y1, y2⟩ := box3_ hb8)
        have hpq8 := (Array.getElem?_eq_some_iff.1 hb8).1
        clear hb8
        have hsy := HM'.out.sys
        have hck8 : Hid (sysCheck (b : Int) K rows' = 0) := sysCheck_of (by omega) ⟨K1, K2⟩ hsy
        go_wp2_with fail
        (with_reducible refine (solKnown_eq _ _ _ _ _ _ rows' HR8.out hck8.out).mono ?_)
        rintro e v9 ⟨g1, m1, rfl, hm1, hm24, hk1, hf⟩
        obtain rfl : m1 = b := by omega
        have hdm : decide (m1 < n10) = false := by simp; omega
        have hb9 := blk_go HB8.out hf
        (obtain ⟨y0, y1, y2⟩ := box3_ hb9)
        have HB9 := Lib.hid hb9
        have HC9 : Hid (Chg (fun x => x = p9) v5 v9) := HC8.out.trans hf.chg
        have HF9 : Hid (Fr v1 v9) := HF8.out.trans hf
        have HR9 := Lib.hid (HR8.out.go sRw hf)
        have HK1 := Lib.hid hk1
        have H7 := Lib.hid (HS7.out.go wBlock HF9.out)
        have HKB : Hid (∀ (k : Nat) (x : List UInt8), (knownF m1 rows')[k]? = some x → x ≠ [] → BL[k]? = some x) := fun k x h1 h2 => known_block hsy hBb.out.symm HALL.out hspan'.out h1 h2
        clear hf hb9 hk1 hm1 hsy HR8 HB8 HC8 HF8
        go_wp2_with fail
        go_loopw [103] (fun s103 wr => ∃ j q : Nat, j ≤ m1 ∧ s103 = .int .i64 j ∧ wr = v9.drewN q) (fun j _ => m1 - (intOf j).toNat)
        case atStart => exact ⟨0, 0, Nat.zero_le _, rfl, rfl⟩
        case round =>
          obtain ⟨j, q, hj, rfl, rfl⟩ := hrel
          by_cases hlt2 : j < m1
          · obtain ⟨ad1, e1, hE⟩ := HK1.out.els (by omega)
            injection e1 with e1
            subst e1
            obtain ⟨x', hx', Ax, nx, cx, hcx, ⟨hx1, _, _⟩, hx2, hx3⟩ := hE.at_ hlt2
            obtain ⟨ad7, rfl, hE'⟩ := H7.out.els (by omega)
            obtain ⟨y', hy', Ay, ny, cy, hcy, ⟨hy1, _, _⟩, hy2⟩ := hE'.at_ hlt2
            have hcx : v9.cell? ⟨g1, j, none⟩ = some (.slice Ax nx cx) := by simpa [zero_add_addr] using hcx
            have hcy : v9.cell? (ad7.add j) = some (.slice Ay ny cy) := by simpa using hcy
            have hnil := fun (W : World) => run_neq_slice_nil_any (P := Try.prog) W 27 _ Ax nx cx 0 0 Try.underlying27
            rcases Nat.eq_zero_or_pos nx with h0 | h0
            · obtain rfl := hx3 h0
              have hnil2 := hnil
              simp only [Option.isNone_none, Bool.not_true] at hnil2
              clear hnil hx' hy' hx2 hy2 hE hE'
              go_wp2_with fail
              go_roundw
              case rel => exact ⟨j + 1, q, by omega, by go_num, rfl⟩
              case measure => simp [intOf]; omega
            · obtain ⟨adx, rfl, _⟩ := hx2.2 h0
              have hxy := HKB.out j x' hx' (fun e => by have := hx2.1; rw [e] at this; simp at this; omega)
              obtain rfl : x' = y' := by have := hxy.symm.trans hy'; injection this
              have hnil2 := hnil
              simp only [Option.isNone_some, Bool.not_false] at hnil2
              have hnm : nx ≤ maxLen := by unfold lim at hx1; unfold maxLen; omega
              have HX2 : Hid (Sl 1 eByte (v9.drewN q) (LT v9.heap.size) (some adx) nx x') := hx2.keep sByte fun _ _ => rfl
              have HY2 : Hid (Sl 1 eByte (v9.drewN q) (LT v9.heap.size) Ay ny x') := hy2.keep sByte fun _ _ => rfl
              clear hnil hx' hy' hx2 hy2 hE hE' hxy
              go_wp2_with fail
              (with_reducible refine (equalBlock_eq2 (v9.drewN q) _ _ _ _ _ _ _ _ x' HX2.out HY2.out hnm).mono ?_)
              rintro e v10 ⟨rfl, q2, rfl⟩
              go_wp2_with fail
              go_roundw
              case rel => exact ⟨j + 1, q + q2, by omega, by go_num, rfl⟩
              case measure => simp [intOf]; omega
          · have HBN : Hid ((v9.drewN q).heap[p9]? = some (.cells #[.int .i64 m1, .int .i64 K, .slice A10 n10 c10] 24 (0, 0))) := HB9.out
            have HRN : Hid (Sl 2 eRw (v9.drewN q) (LT (v9.drewN q).heap.size) A10 n10 rows') := HR9.out.keep sRw fun _ _ => rfl
            have HFN : Hid (Fr v1 (v9.drewN q)) := below_drewN HF9.out q
            have HCN : Hid (Chg (fun x => x = p9) v5 (v9.drewN q)) := HC9.out.drewN q
            go_wp2_with fail
            go_roundw
            case rel => exact ⟨i + 1, rows', A10, n10, c10, by omega, by go_num, rfl, HBN, ⟨hn10, hc10, hm10⟩, HRN, HM', HFN, HCN⟩
            case measure => simp [intOf]; omega
    · go_wp2_with fail
      go_ret
      exact ⟨rfl, HF1.out.trans HF.out⟩
set_option maxRecDepth 100000 in
set_option maxHeartbeats 1000000 in
theorem solveKnown_any (w : World) (B K : Int) (wB : wfI B) (wK : wfI K) (A : Option Addr) (n c : Nat) (cargo : List UInt8) (h : Sl 1 eByte w (LT w.heap.size) A n cargo) (_l : n * 1 ≤ lim) (hnc : n ≤ c) (hcm : c ≤ maxLen) (A2 : Option Addr) (n2 c2 : Nat) (ids : List Int) (h2 : Sl 1 eInt w (LT w.heap.size) A2 n2 ids) (_l2 : n2 * 8 ≤ lim) (hnc2 : n2 ≤ c2) (hcm2 : c2 ≤ maxLen) :
    Calls Try.prog 5 #[.agg #[.int .i64 B, .int .i64 K], .slice A n c, .slice A2 n2 c2] w fun e w' => e = .returned (.bool true) ∧ Fr w w' := by
  by_cases hu : (cutUp B K cargo).2 = 0
  · obtain ⟨hck, hl⟩ := cutUp_err hu
    have hk := (cutCheck_ok hck).2.1
    obtain ⟨k, rfl⟩ := Int.eq_ofNat_of_zero_le (show 0 ≤ K by omega)
    have hn := h.1
    obtain rfl : B = (n : Int) := by omega
    exact solveKnown_good w k A n c cargo h hnc hcm A2 n2 c2 ids h2 hnc2 hcm2 hck
  · obtain ⟨ck, hk⟩ : ∃ ck, ck = (cutUp B K cargo).2 := ⟨_, rfl⟩
    have e1 : (ck != 0) = true := by rw [hk, bne_iff_ne]; exact hu
    (have Hk := Lib.hid hk; clear hk; have H := Lib.hid h; clear h)
    clear hu h2
    go_enter Try.func5, Try.ntmps5
    go_wp2_with fail
    (with_reducible refine (cutCut_any _ _ _ _ _ _ cargo (H.out.go sByte (by (repeat' (first | exact Below.refl _ _ | refine below_drewN ?_ _ | refine Below.drew ?_ | refine frA ?_ _)))) hnc hcm wB wK).mono ?_)
    rw [← Hk.out]
    rintro e v1 ⟨v, rfl, _, hf⟩
    have HF1 : Hid (Fr w v1) := Fr.trans (by (repeat' (first | exact Below.refl _ _ | refine below_drewN ?_ _ | refine Below.drew ?_ | refine frA ?_ _))) hf
    clear hf
    go_wp2_with fail
    (with_reducible refine (solved_any _).mono ?_)
    rintro e v2 ⟨rfl, hf⟩
    have HF2 : Hid (Fr v1 v2) := hf
    clear hf
    go_wp2_with fail
    (with_reducible refine (solved_any _).mono ?_)
    rintro e v3 ⟨rfl, hf⟩
    have HF3 := Lib.hid hf
    clear hf
    go_wp2_with fail
    go_ret
    exact ⟨rfl, HF1.out.trans (HF2.out.trans HF3.out)⟩
end Go.Proofs.Ytnfjghldcopaaaa
