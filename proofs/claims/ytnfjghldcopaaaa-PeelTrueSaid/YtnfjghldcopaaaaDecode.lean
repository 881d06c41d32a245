/- solve.Decode. No condition. -/
import Derived.Test.YtnfjghldcopaaaaSolved
import Derived.Test.YtnfjghldcopaaaaDecF
import Derived.Test.YtnfjghldcopaaaaPickE
import Derived.Test.YtnfjghldcopaaaaJoin
import Derived.Deep.DeepCutAuto
import Derived.Deep.Cut
set_option linter.unusedSimpArgs false
set_option linter.unusedVariables false
namespace Go.Proofs.Ytnfjghldcopaaaa
open Go.RowKit
attribute [local irreducible] wpList

/-- What solve.Decode leaves. -/
def DecPost (w : World) (x : List UInt8 × Int) (e : Ending) (w' : World) : Prop :=
  ∃ A n c, e = .returned (.tuple #[.slice A n c, .int .i64 x.2]) ∧ (n ≤ 360 ∧ n ≤ c ∧ c ≤ maxLen) ∧ Sl 1 eByte w' (LT w'.heap.size) A n x.1 ∧ Fr w w'
theorem decPost_err {w w' : World} {x : List UInt8 × Int} {e : Int} (E : x = ([], e)) (hf : Fr w w') : DecPost w x (.returned (.tuple #[.slice none 0 0, .int .i64 e])) w' := by
  subst E
  exact ⟨none, 0, 0, rfl, ⟨by omega, by omega, by unfold maxLen; omega⟩, Sl.nil, hf⟩

theorem set3_far {w : World} {g q o : Nat} {a b c : Value} (h : g ≠ q) : (((w.setCell ⟨g, 0, none⟩ a).setCell ⟨g, 1, none⟩ b).setCell ⟨g, 2, none⟩ c).cell? ⟨q, o, none⟩ = w.cell? ⟨q, o, none⟩ := by
  rw [World.cell?_setCell_other _ _ _ _ (fun e => by injection e with e; exact h e), set2_far h]
set_option maxRecDepth 100000 in
set_option maxHeartbeats 4000000 in
theorem decode_good (w : World) (B : Int) (K b : Nat) (A : Option Addr) (n c : Nat) (xs : List Sm) (h : Sl 2 eSm w (LT w.heap.size) A n xs) (hn : n ≤ 60) (hck : cutCheck B K = 0) (hb : blocksOf B K = b) :
    Calls Try.prog 34 #[.agg #[.int .i64 B, .int .i64 K], .slice A n c] w (DecPost w (decodeF B K xs)) := by
  obtain ⟨⟨c1, c2⟩, ⟨c3, c4⟩, c5, c6, c7⟩ := cutCheck_ok hck
  have hd60 : decide ((60 : Int) < (n : Int)) = false := by simp; omega
  have hd61 : decide (60 < n) = false := by simp; omega
  have hlen := h.1
  have D0 : Hid (decodeF B K xs = if (decRows b B K [] xs).2 ≠ 0 then ([], (decRows b B K [] xs).2) else if (decRows b B K [] xs).1.length < b then ([], 8) else joinUp B K (knownF b (decRows b B K [] xs).1)) := by
    unfold decodeF Hid
    rw [if_neg (by simp [hck]), if_neg (by omega), hb, Int.toNat_natCast]
  have b1 : 1 ≤ b := by omega
  have b2 : b ≤ 24 := by omega
  have K1 : 1 ≤ K := by omega
  have K2 : K ≤ 16 := by omega
  have wB : wfI B := wfI.mk (by omega)
  have wK : wfI (K : Int) := wfI.mk (by omega)
  have wb : wfI (b : Int) := wfI.mk (by omega)
  have EN : Hid (sysNew b K = (⟨b, K, []⟩, 0)) := by
    unfold sysNew Hid
    rw [if_neg (by simp [sysCheck_of (rows := []) (by omega : 1 ≤ b ∧ b ≤ 24) (by omega : 1 ≤ K ∧ K ≤ 16) (made_nil b K).sys])]
  have CB : Hid (∀ W : World, Calls Try.prog 41 #[.agg #[.int .i64 B, .int .i64 K]] W fun e w' => e = .returned (.int .i64 (b : Int)) ∧ Fr W w') := fun W => by
    have := cutBlocks_any W B K wB wK
    rw [hb] at this; exact this
  have CN : Hid (∀ W : World, Calls Try.prog 14 #[.int .i64 (b : Int), .int .i64 (K : Int)] W fun e w' => e = .returned (.tuple #[.agg #[.int .i64 (b : Int), .int .i64 (K : Int), .slice none 0 0], .int .i64 0]) ∧ Fr W w') := fun W => by
    have := solNew_any W b K wb wK
    rw [EN.out] at this; exact this
  have HCK := Lib.hid hck
  have HL := Lib.hid hlen
  (have H := Lib.hid h; clear h)
  clear hck hb hlen c1 c2 c3 c4 c5 c6 c7
  go_enter Try.func34, Try.ntmps34
  go_wp2_with fail
  (with_reducible refine (cutCheck_any _ _ _ wB wK).mono ?_)
  rw [HCK.out]
  rintro e v1 ⟨rfl, hf⟩
  have HP1 : Hid (v1.heap[w.heap.size]? = some (.cells #[.int .i64 B, .int .i64 K] 47 (0, 0))) := blk_go (by (repeat' (with_reducible (first | (refine heap_new ?_; (first | (simp; done) | rfl); done) | refine heap_dn ?_ | refine heap_d ?_ | refine heap_old ?_)))) hf
  have HF1 : Hid (Fr w v1) := Fr.trans (by (repeat' (first | exact Below.refl _ _ | refine below_drewN ?_ _ | refine Below.drew ?_ | refine frA ?_ _))) hf
  have hp1 := HP1.out
  (obtain ⟨x0, x1⟩ := box2_ hp1)
  have hwl := (Array.getElem?_eq_some_iff.1 hp1).1
  clear hf hp1
  go_upto_region 6 with fail
  go_cut [7] (fun s7 wx => ∃ g : Nat, s7 = .pointer (some ⟨g, 0, none⟩) ∧ Hid (wx.heap[g]? = some (.cells #[.int .i64 b, .int .i64 K, .slice none 0 0] 24 (0, 0))) ∧ Hid (v1.heap.size ≤ g) ∧ Hid (Fr v1 wx))
  case first =>
    have HB : Hid (v1.drew.heap[w.heap.size]? = some (.cells #[.int .i64 B, .int .i64 K] 47 (0, 0))) := HP1.out
    have HG : Hid (Fr v1 v1.drew) := (Below.refl _ _).drew
    go_region_held3 (fun w' => w'.cell? ⟨w.heap.size, 0, none⟩ = some (.int .i64 B) ∧ w'.cell? ⟨w.heap.size, 1, none⟩ = some (.int .i64 K)) (first | exact box2_ HB.out | exact box2_ (heap_old HB.out) | exact ⟨(set3_far NE).trans (cell_of_heap HB.out), (set3_far NE).trans (cell_of_heap HB.out)⟩ | go_keep)
      (first
        | (go_at_call 41; (with_reducible refine (CB.out v1.drew).mono ?_); rintro e w5 ⟨rfl, hf5⟩; have HB := Lib.hid (blk_go HB.out hf5); have HG := Lib.hid (HG.out.trans hf5); clear hf5)
        | (go_at_call 41; (with_reducible refine (CB.out (v1.alloc (.cells #[.int .i64 0, .int .i64 0, .slice none 0 0] 24)).drew).mono ?_); rintro e w5 ⟨rfl, hf5⟩; have HGZ := Lib.hid (blk_go (heap_d (w := v1.alloc (.cells #[.int .i64 0, .int .i64 0, .slice none 0 0] 24)) (heap_new (b := v1.heap.size) rfl)) hf5); have HB := Lib.hid (blk_go (heap_d (w := v1.alloc (.cells #[.int .i64 0, .int .i64 0, .slice none 0 0] 24)) (heap_old HP1.out)) hf5); have HG := Lib.hid (Fr.trans (frAlloc v1 (.cells #[.int .i64 0, .int .i64 0, .slice none 0 0] 24)).drew hf5); obtain ⟨gz, hgz⟩ : ∃ gz, gz = v1.heap.size := ⟨_, rfl⟩; have HGE : Hid (v1.heap.size ≤ gz) := Nat.le_of_eq hgz.symm; rw [← hgz] at HGZ; rw [← hgz]; clear hf5 hgz)
        | (go_at_call 14; (with_reducible refine (CN.out w5).mono ?_); rintro e w6 ⟨rfl, hf5⟩; have HB := Lib.hid (blk_go HB.out hf5); have HGZ := Lib.hid (blk_go HGZ.out hf5); have HG := Lib.hid (HG.out.trans hf5); have y0 := cell_of_heap (i := 0) HGZ.out; have y1 := cell_of_heap (i := 1) HGZ.out; have y2 := cell_of_heap (i := 2) HGZ.out; have f0 := blk_free (i := 0) HGZ.out; have f1 := blk_free (i := 1) HGZ.out; have f2 := blk_free (i := 2) HGZ.out; have hgl := (Array.getElem?_eq_some_iff.1 HGZ.out).1; have NE : gz ≠ w.heap.size := Nat.ne_of_gt (Nat.lt_of_lt_of_le hwl HGE.out); clear hf5)
        | (go_at_call 14; (with_reducible refine (CN.out w5).mono ?_); rintro e w6 ⟨rfl, hf5⟩; have HB := Lib.hid (blk_go HB.out hf5); have HG := Lib.hid (HG.out.trans hf5); clear hf5)
        | (go_at_call 14; (with_reducible refine (CN.out (w5.alloc (.cells #[.int .i64 0, .int .i64 0, .slice none 0 0] 24))).mono ?_); rintro e w6 ⟨rfl, hf5⟩; obtain ⟨gz, hgz⟩ : ∃ gz, gz = w5.heap.size := ⟨_, rfl⟩; have HGZ := Lib.hid (blk_go (heap_new (w := w5) (o := (.cells #[.int .i64 0, .int .i64 0, .slice none 0 0] 24)) hgz) hf5); have HB := Lib.hid (blk_go (heap_old (o := (.cells #[.int .i64 0, .int .i64 0, .slice none 0 0] 24)) HB.out) hf5); have HGE : Hid (v1.heap.size ≤ gz) := (by rw [hgz]; exact HG.out.size); have HG := Lib.hid ((HG.out.trans (frAlloc w5 (.cells #[.int .i64 0, .int .i64 0, .slice none 0 0] 24))).trans hf5); rw [← hgz]; have y0 := cell_of_heap (i := 0) HGZ.out; have y1 := cell_of_heap (i := 1) HGZ.out; have y2 := cell_of_heap (i := 2) HGZ.out; have f0 := blk_free (i := 0) HGZ.out; have f1 := blk_free (i := 1) HGZ.out; have f2 := blk_free (i := 2) HGZ.out; have hgl := (Array.getElem?_eq_some_iff.1 HGZ.out).1; have NE : gz ≠ w.heap.size := Nat.ne_of_gt (Nat.lt_of_lt_of_le hwl HGE.out); clear hf5 hgz)
        | fail)
    all_goals first
      | (have hst : Hid ((((w6.setCell ⟨gz, 0, none⟩ (.int .i64 b)).setCell ⟨gz, 1, none⟩ (.int .i64 K)).setCell ⟨gz, 2, none⟩ (.slice none 0 0)).heap[gz]? = some (.cells #[.int .i64 b, .int .i64 K, .slice none 0 0] 24 (0, 0))) := stor3_ HGZ.out
         have hfr : Hid (Fr v1 (((w6.setCell ⟨gz, 0, none⟩ (.int .i64 b)).setCell ⟨gz, 1, none⟩ (.int .i64 K)).setCell ⟨gz, 2, none⟩ (.slice none 0 0))) := bel3_ HG.out HGE.out
         go_wp2_with fail
         go_meet
         exact ⟨gz, rfl, hst, HGE, hfr⟩)
      | (have hge : Hid (v1.heap.size ≤ w6.heap.size) := HG.out.size
         have hfr : Hid (Fr v1 (w6.alloc (.cells #[.int .i64 b, .int .i64 K, .slice none 0 0] 24))) := HG.out.trans (frAlloc _ _)
         go_wp2_with fail
         go_meet
         exact ⟨_, rfl, heap_new rfl, hge, hfr⟩)
  case rest =>
    obtain ⟨p7, rfl, HB2, HG2, HF2⟩ := hcut
    obtain ⟨W2, rfl⟩ : ∃ W2, W2 = wc := ⟨_, rfl⟩
    have HWP : Hid (w.heap.size < p7) := Nat.lt_of_lt_of_le hwl HG2.out
    have HP2 := Lib.hid (blk_go HP1.out HF2.out)
    have HFW : Hid (Fr w W2) := HF1.out.trans HF2.out
    have hwp := HWP.out
    clear HP1 x0 x1
    go_wp2_with fail
    go_loopw [37] (fun s37 wr => ∃ (i : Nat) (rows : List Rw) (A9 : Option Addr) (n9 c9 : Nat), i ≤ n ∧ s37 = .int .i64 i ∧ Hid (wr.heap[p7]? = some (.cells #[.int .i64 b, .int .i64 K, .slice A9 n9 c9] 24 (0, 0))) ∧ (n9 ≤ 24 ∧ n9 ≤ c9 ∧ c9 ≤ maxLen) ∧ Hid (Sl 2 eRw wr (LT wr.heap.size) A9 n9 rows) ∧ Hid (Sys b K rows) ∧ Hid (decRows b B K [] xs = decRows b B K rows (xs.drop i)) ∧ Hid (Fr w wr) ∧ Hid (wr.heap[w.heap.size]? = some (.cells #[.int .i64 B, .int .i64 K] 47 (0, 0)))) (fun i _ => n - (intOf i).toNat)
    case atStart => exact ⟨0, [], none, 0, 0, Nat.zero_le _, rfl, HB2, ⟨by omega, by omega, by unfold maxLen; omega⟩, Sl.nil, (made_nil b K).sys, rfl, HFW, HP2⟩
    case round =>
      obtain ⟨i, rows, A9, n9, c9, hi, rfl, HB, ⟨hn9, hc9, hm9⟩, HR, HS, HD, HF, HP⟩ := hrel
      have hpw := HP.out
      (obtain ⟨x0, x1⟩ := box2_ hpw)
      have hbw := HB.out
      (obtain ⟨y0, y1, y2⟩ := box3_ hbw)
      have hwr7 := (Array.getElem?_eq_some_iff.1 hbw).1
      have hwr0 := (Array.getElem?_eq_some_iff.1 hpw).1
      clear hpw hbw
      by_cases hlt : i < n
      · obtain ⟨ad, rfl, hE⟩ := (H.out.go sSm HF.out).els (by omega)
        obtain ⟨x, hx, hrx⟩ := hE.row hlt
        obtain ⟨A3, n3, c3, ⟨m0, m1⟩, wx, ⟨k1, k2, k3⟩, hby⟩ := eSm_iff.1 hrx
        have m0 : wr.cell? (ad.add (i * 2)) = some (.int .i64 x.id) := by simpa [Addr.add] using m0
        have m1 : wr.cell? ⟨(ad.add (i * 2)).block, (ad.add (i * 2)).off + 1, none⟩ = some (.slice A3 n3 c3) := by simpa [Addr.add] using m1
        have HDX : Hid (decRows b B K [] xs = decRows b B K rows (x :: xs.drop (i + 1))) := by rw [Hid, HD.out, drop_cons hx]
        have hdl := hby.1
        obtain ⟨q, hq⟩ : ∃ q, q = wr.heap.size := ⟨_, rfl⟩
        obtain ⟨W4, hW4⟩ : ∃ W4, W4 = wr.alloc (.cells #[.int .i64 x.id, .slice A3 n3 c3] 53) := ⟨_, rfl⟩
        have HX4 : Hid (W4.heap[q]? = some (.cells #[.int .i64 x.id, .slice A3 n3 c3] 53 (0, 0))) := by rw [hW4]; exact heap_new hq
        have HB4 : Hid (W4.heap[p7]? = some (.cells #[.int .i64 b, .int .i64 K, .slice A9 n9 c9] 24 (0, 0))) := by rw [hW4]; exact heap_old HB.out
        have HP4 : Hid (W4.heap[w.heap.size]? = some (.cells #[.int .i64 B, .int .i64 K] 47 (0, 0))) := by rw [hW4]; exact heap_old HP.out
        have HF4 : Hid (Fr wr W4) := by rw [hW4]; exact frAlloc _ _
        have HQ := Lib.hid hq
        have HW4 := Lib.hid hW4
        obtain ⟨ck, hck⟩ : ∃ ck, ck = codeCheck B K x.id n3 := ⟨_, rfl⟩
        have CC := Lib.hid (fun W A c => codeCheck_any W B K x.id A n3 c wB wK)
        rw [← hck] at CC
        have HCK2 : Hid (codeCheck B K x.id x.data.length = ck) := by rw [Hid, hdl, hck]
        have HBY := Lib.hid hby
        (have Hdl := Lib.hid hdl; clear hdl; have Hck := Lib.hid hck; clear hck)
        clear hrx hE hx k1 k2 k3 hby hq hW4 wx HD
        go_wp2_with fail
        rw [← HW4.out, ← HQ.out]
        clear x0 x1 y0 y1 y2 m0 m1 HW4
        (with_reducible refine (CC.out _ _ _).mono ?_)
        rintro e v5 ⟨rfl, hf⟩
        have HX5 := Lib.hid (blk_go HX4.out hf)
        have HB5 := Lib.hid (blk_go HB4.out hf)
        have HP5 := Lib.hid (blk_go HP4.out hf)
        have HF5 : Hid (Fr wr v5) := HF4.out.trans hf
        clear hf HX4 HB4 HP4 HF4 CC
        by_cases hc0 : ck = 0
        · have e1 : (ck != 0) = false := by simp [hc0]
          have hcc := codeCheck_ok (HCK2.out.trans hc0)
          obtain ⟨hid1, hid2⟩ := hcc.2.1
          have hfx : Fit b K (symRow b x) := ⟨length_pickHas _ _, by have := hcc.2.2; show x.data.length = K; omega⟩
          have HD2 : Hid (decRows b B K [] xs = if (sysAdd ⟨b, K, rows⟩ (symRow b x)).2.2 ≠ 0 then ([], (sysAdd ⟨b, K, rows⟩ (symRow b x)).2.2) else decRows b B K (sysAdd ⟨b, K, rows⟩ (symRow b x)).1.rows (xs.drop (i + 1))) := by
            rw [Hid, HDX.out, decRows, if_neg (by rw [HCK2.out, hc0]; simp)]
          obtain ⟨b', k', rows', mo, er, hadd⟩ : ∃ b' k' rows' mo er, sysAdd ⟨b, K, rows⟩ (symRow b x) = (⟨b', k', rows'⟩, mo, er) := ⟨_, _, _, _, _, rfl⟩
          have EA := Lib.hid hadd
          rw [hadd] at HD2
          have HS' : Hid (er = 0 → b' = (b : Int) ∧ k' = (K : Int) ∧ Sys b K rows') := fun h0 => by
            obtain ⟨b2, k2, e2, e3, _, _, _, hs2, _, e4, e5, hcase⟩ := sysAdd_ok0 (B := (b : Int)) (K := (K : Int)) (rows := rows) (r := symRow b x) (by rw [hadd]; exact h0)
            rw [hadd] at e4 e5 hcase
            simp only [] at e4 e5 hcase
            obtain rfl : b2 = b := by omega
            obtain rfl : k2 = K := by omega
            refine ⟨e4, e5, ?_⟩
            rcases hcase with ⟨rfl, _⟩ | ⟨_, rfl, _, _, hs3, _⟩
            · exact hs2
            · exact hs3
          have hx5 := HX5.out
          (obtain ⟨z0, z1⟩ := box2_ hx5)
          have hb5 := HB5.out
          (obtain ⟨y0, y1, y2⟩ := box3_ hb5)
          clear hx5 hb5 hc0 hcc hfx hadd HDX HCK2
          go_wp2_with fail
          (with_reducible refine (pick_eq _ _ _ hid1 hid2 b1 b2).mono ?_)
          rintro e v6 ⟨A6, c6, rfl, hs6, hf⟩
          have HX6 := Lib.hid (blk_go HX5.out hf)
          have HB6 := Lib.hid (blk_go HB5.out hf)
          have HP6 := Lib.hid (blk_go HP5.out hf)
          have HF6 : Hid (Fr wr v6) := HF5.out.trans hf
          have HS6 := Lib.hid hs6
          have hx6 := HX6.out
          (obtain ⟨z0, z1⟩ := box2_ hx6)
          have hb6 := HB6.out
          (obtain ⟨y0, y1, y2⟩ := box3_ hb6)
          have hp96 := (Array.getElem?_eq_some_iff.1 hb6).1
          have hrm : n9 ≤ maxLen := by omega
          clear hf hs6 hx6 hb6 HX5 HB5 HP5 HF5
          go_wp2_with fail
          (with_reducible refine (solAdd_eq _ _ _ wb wK _ _ _ rows (HR.out.go sRw HF6.out) hrm (symRow b x) _ _ _ _ _ _ HS6.out (HBY.out.go sByte HF6.out) _ _ _ _ _ EA.out).mono ?_)
          rintro e v7 ⟨A10, n10, c10, rfl, ⟨hn10, hc10, hm10⟩, hs10, hf⟩
          have HF7 : Hid (Fr wr v7) := HF6.out.trans hf
          by_cases he0 : er = 0
          · subst he0
            obtain ⟨rfl, rfl, hsys⟩ := HS'.out rfl
            have HD3 : Hid (decRows b B K [] xs = decRows b B K rows' (xs.drop (i + 1))) := by rw [Hid, HD2.out, if_neg (by simp)]
            have hb7 := blk_go HB6.out hf
            have hp7 := blk_go HP6.out hf
            (obtain ⟨y0, y1, y2⟩ := box3_ hb7)
            have yf0 := blk_free (i := 0) hb7
            have yf1 := blk_free (i := 1) hb7
            have yf2 := blk_free (i := 2) hb7
            have hbl7 := (Array.getElem?_eq_some_iff.1 hb7).1
            obtain ⟨W8, hW8⟩ : ∃ W8, W8 = (((v7.setCell ⟨p7, 0, none⟩ (.int .i64 b)).setCell ⟨p7, 1, none⟩ (.int .i64 K)).setCell ⟨p7, 2, none⟩ (.slice A10 n10 c10)).alloc (.cells #[.int .i64 b, .int .i64 K, .slice A10 n10 c10] 24) := ⟨_, rfl⟩
            have HB8 : Hid (W8.heap[p7]? = some (.cells #[.int .i64 b, .int .i64 K, .slice A10 n10 c10] 24 (0, 0))) := by rw [hW8]; exact heap_old (stor3_ hb7)
            have hC8 : Chg (fun x => x = p7) v7 W8 := by rw [hW8]; exact (Chg.of (grw3_ ⟨rfl, rfl, rfl, Nat.le_refl _, fun _ _ _ => rfl⟩)).trans (frAlloc _ _).chg
            have HP8 : Hid (W8.heap[w.heap.size]? = some (.cells #[.int .i64 B, .int .i64 K] 47 (0, 0))) := hC8.blk hp7 (by omega)
            have HR8 : Hid (Sl 2 eRw W8 (LT W8.heap.size) A10 n10 rows') := by
              have q2 := hs10.chg sRw hC8 fun bb hb => ⟨hb.2, fun e => by have := hb.1; omega⟩
              exact q2.more sRw fun bb hb => Nat.lt_of_lt_of_le hb.2 hC8.size
            have HF8 : Hid (Fr w W8) := hC8.fr (HF.out.trans HF7.out) fun bb hb => by rw [hb]; omega
            have HSY := Lib.hid hsys
            rw [hW8] at HB8 HP8 HR8 HF8
            clear hf hb7 hp7 hs10 hC8 hW8 HB6 HX6 HP6 z0 z1 HS6 HBY hsys HS' HD2 EA
            go_wp2_with fail
            go_roundw
            case rel => exact ⟨i + 1, rows', A10, n10, c10, by omega, by go_num, HB8, ⟨hn10, hc10, hm10⟩, HR8, HSY, HD3, HF8, HP8⟩
            case measure => simp [intOf]; omega
          · have e2 : (er != 0) = true := by simp [he0]
            have ED : Hid (decodeF B K xs = ([], er)) := by
              rw [Hid, D0.out, HD2.out, if_pos he0]
              exact if_pos he0
            clear he0 hf hs10 HS' HD2 EA
            go_wp2_with fail
            go_ret2
            exact decPost_err ED.out ((HF.out.trans HF7.out).trans (frAlloc _ _))
        · have e1 : (ck != 0) = true := by simp [hc0]
          have ED : Hid (decodeF B K xs = ([], ck)) := by
            rw [Hid, D0.out, HDX.out, decRows, HCK2.out, if_pos hc0]
            exact if_pos hc0
          clear hc0 HDX HCK2
          go_wp2_with fail
          go_ret2
          exact decPost_err ED.out (HF.out.trans HF5.out)
      · obtain rfl : i = n := by omega
        have hde : xs.drop i = [] := List.drop_eq_nil_of_le (by rw [HL.out]; exact Nat.le_refl _)
        have HD2 : Hid (decRows b B K [] xs = (rows, 0)) := by rw [Hid, HD.out, hde]; rfl
        have hrl : rows.length = n9 := HR.out.1
        have D1 : Hid (decodeF B K xs = if n9 < b then ([], 8) else joinUp B K (knownF b rows)) := by
          rw [Hid, D0.out, HD2.out, if_neg (by simp), hrl]
        have hck8 : Hid (sysCheck (b : Int) K rows = 0) := sysCheck_of (by omega) ⟨K1, K2⟩ HS.out
        clear hde hrl HD HD2 D0
        by_cases hfull : n9 < b
        · have ED : Hid (decodeF B K xs = ([], 8)) := by rw [Hid, D1.out, if_pos hfull]
          go_wp2_with fail
          go_ret2
          exact decPost_err ED.out HF.out
        · have ED : Hid (decodeF B K xs = joinUp B K (knownF b rows)) := by rw [Hid, D1.out, if_neg hfull]
          go_wp2_with fail
          (with_reducible refine (solKnown_eq _ _ _ _ _ _ rows HR.out hck8.out).mono ?_)
          rintro e v9 ⟨g1, m1, rfl, hm1, hm24, hk1, hf⟩
          obtain rfl : m1 = b := by omega
          have hp9 := blk_go HP.out hf
          (obtain ⟨x0, x1⟩ := box2_ hp9)
          have HF9 : Hid (Fr w v9) := HF.out.trans hf
          have HK1 := Lib.hid hk1.nb
          clear hf hp9 hk1 hm1
          go_wp2_with fail
          (with_reducible refine (cutJoin_any _ _ _ _ _ _ (knownF m1 rows) HK1.out wB wK).mono ?_)
          rintro e v10 ⟨A11, n11, c11, rfl, hn11, hc11, hm11, hs11, hf⟩
          have HF10 : Hid (Fr w v10) := HF9.out.trans hf
          have HS11 := Lib.hid hs11
          clear hf hs11
          go_wp2_with fail
          go_ret2
          rw [ED.out]
          exact ⟨A11, n11, c11, rfl, ⟨hn11, hc11, hm11⟩, HS11.out, HF10.out⟩

set_option maxRecDepth 100000 in
set_option maxHeartbeats 1000000 in
theorem decode_any (w : World) (B K : Int) (wB : wfI B) (wK : wfI K) (A : Option Addr) (n c : Nat) (xs : List Sm) (h : Sl 2 eSm w (LT w.heap.size) A n xs) (hnm : n ≤ maxLen) :
    Calls Try.prog 34 #[.agg #[.int .i64 B, .int .i64 K], .slice A n c] w (DecPost w (decodeF B K xs)) := by
  by_cases hck : cutCheck B K = 0
  · obtain ⟨c1, c2, c3, c4, _⟩ := cutCheck_ok hck
    by_cases hn : n ≤ 60
    · obtain ⟨k, rfl⟩ := Int.eq_ofNat_of_zero_le (show 0 ≤ K by omega)
      obtain ⟨b, hb⟩ := Int.eq_ofNat_of_zero_le (show 0 ≤ blocksOf B k by omega)
      exact decode_good w B k b A n c xs h hn hck hb
    · have ED : Hid (decodeF B K xs = ([], 2)) := by
        unfold decodeF Hid
        rw [if_neg (by simp [hck]), if_pos (by rw [h.1]; omega)]
      have hn1 : decide ((60 : Int) < (n : Int)) = true := by simp; omega
      have hn2 : decide (60 < n) = true := by simp; omega
      have HC := Lib.hid hck
      unfold maxLen at hnm
      clear h hck c1 c2 c3 c4 hn
      go_enter Try.func34, Try.ntmps34
      go_wp2_with fail
      (with_reducible refine (cutCheck_any _ _ _ wB wK).mono ?_)
      rw [HC.out]
      rintro e v1 ⟨rfl, hf⟩
      have HF1 : Hid (Fr w v1) := Fr.trans (by (repeat' (first | exact Below.refl _ _ | refine below_drewN ?_ _ | refine Below.drew ?_ | refine frA ?_ _))) hf
      clear hf
      go_wp2_with fail
      go_ret2
      exact decPost_err ED.out HF1.out
  · obtain ⟨ck, hk⟩ : ∃ ck, ck = cutCheck B K := ⟨_, rfl⟩
    have ED : Hid (decodeF B K xs = ([], ck)) := by
      unfold decodeF Hid
      rw [if_pos hck, hk]
    have e1 : (ck != 0) = true := by rw [hk, bne_iff_ne]; exact hck
    (have Hk := Lib.hid hk; clear hk)
    clear h hck
    go_enter Try.func34, Try.ntmps34
    go_wp2_with fail
    (with_reducible refine (cutCheck_any _ _ _ wB wK).mono ?_)
    rw [← Hk.out]
    rintro e v1 ⟨rfl, hf⟩
    have HF1 : Hid (Fr w v1) := Fr.trans (by (repeat' (first | exact Below.refl _ _ | refine below_drewN ?_ _ | refine Below.drew ?_ | refine frA ?_ _))) hf
    clear hf
    go_wp2_with fail
    go_ret2
    exact decPost_err ED.out HF1.out
end Go.Proofs.Ytnfjghldcopaaaa
