/- solve.Add. No condition. -/
import Derived.Test.YtojoodmnmhcojaaAddM
import Derived.Deep.DeepCutAuto
import Derived.Deep.Cut
set_option linter.unusedSimpArgs false
set_option linter.unusedVariables false
namespace Go.Proofs.Ytojoodmnmhcojaa
open Go.RowKit
attribute [local irreducible] wpList

/-- What solve.Add leaves. -/
def AddPost (w : World) (x : Sy × Bool × Int) (e : Ending) (w' : World) : Prop :=
  ∃ A n c, e = .returned (.tuple #[.agg #[.int .i64 x.1.blocks, .int .i64 x.1.block, .slice A n c], .bool x.2.1, .int .i64 x.2.2]) ∧ (n ≤ 24 ∧ n ≤ c ∧ c ≤ maxLen) ∧ Sl 2 eRw w' (NW w.heap.size w'.heap.size) A n x.1.rows ∧ Fr w w'

theorem first_at (w : World) (A A2 : Option Addr) (n c n2 c2 : Nat) (xs : List Bool) (k : Nat) (h : Sl 1 eBool w (LT w.heap.size) A n xs) (hm : n ≤ maxLen) (hk : idxF true xs = (k : Int)) :
    Calls Try.prog 69 #[.agg #[.slice A n c, .slice A2 n2 c2]] w fun e w' => e = .returned (.int .i64 (k : Int)) ∧ Fr w w' :=
  (first_any w A A2 n c n2 c2 xs h hm).mono fun e w' ⟨h1, h2⟩ => ⟨by rw [h1, hk], h2⟩
/-- A row that solve.Add has in hand: its variable's block, its own two blocks. -/
structure RBx (w : World) (p h ch d cd B K : Nat) (r : Rw) : Prop where
  box : w.heap[p]? = some (.cells #[.slice (some ⟨h, 0, none⟩) B ch, .slice (some ⟨d, 0, none⟩) K cd] 106 (0, 0))
  has : Blk Value.bool w 4 h r.has
  data : Blk bV w 5 d r.data
theorem RBx.chg {w w' : World} {p h ch d cd B K : Nat} {r : Rw} {S : Nat → Prop} (x : RBx w p h ch d cd B K r) (k : Chg S w w') (hp : ¬ S p) (hh : ¬ S h) (hd : ¬ S d) : RBx w' p h ch d cd B K r := ⟨k.blk x.box hp, x.has.chg k hh, x.data.chg k hd⟩
theorem RBx.fr {w w' : World} {p h ch d cd B K : Nat} {r : Rw} (x : RBx w p h ch d cd B K r) (k : Fr w w') : RBx w' p h ch d cd B K r := ⟨blk_go x.box k, x.has.fr k, x.data.fr k⟩
theorem sysAdd_same {B K : Nat} {rows : List Rw} {r : Rw} (hc : sysCheck B K rows = 0) (hf : Fit B K r) (h0 : (redRow rows r).fst < 0) (hd : (redRow rows r).data.all (fun c => c == 0) = true) : sysAdd ⟨B, K, rows⟩ r = (⟨B, K, rows⟩, false, 0) := by
  have e : addRow rows r = (rows, false, 0) := by unfold addRow; rw [if_pos h0, if_pos hd]
  unfold sysAdd
  rw [if_neg (by simp [hc]), if_neg (by simp [hf.1, hf.2]), e, if_pos rfl]
theorem sysAdd_torn {B K : Nat} {rows : List Rw} {r : Rw} (hc : sysCheck B K rows = 0) (hf : Fit B K r) (h0 : (redRow rows r).fst < 0) (hd : (redRow rows r).data.all (fun c => c == 0) = false) : sysAdd ⟨B, K, rows⟩ r = (Sy.none, false, 9) := by
  have e : addRow rows r = ([], false, 9) := by unfold addRow; rw [if_pos h0, if_neg (by simp [hd])]
  unfold sysAdd
  rw [if_neg (by simp [hc]), if_neg (by simp [hf.1, hf.2]), e, if_neg (by simp)]
theorem sysAdd_new {B K k : Nat} {rows : List Rw} {r : Rw} (hc : sysCheck B K rows = 0) (hf : Fit B K r) (h0 : (redRow rows r).fst = (k : Int)) : sysAdd ⟨B, K, rows⟩ r = (⟨B, K, insRow rows k (redRow rows r)⟩, true, 0) := by
  have e : addRow rows r = (insRow rows k (redRow rows r), true, 0) := by unfold addRow; rw [if_neg (by omega), h0, Int.toNat_natCast]
  unfold sysAdd
  rw [if_neg (by simp [hc]), if_neg (by simp [hf.1, hf.2]), e, if_pos rfl]

set_option maxRecDepth 100000 in
set_option maxHeartbeats 8000000 in
theorem solAdd_ok (w : World) (B K : Nat) (A : Option Addr) (n c : Nat) (rows : List Rw) (h : Sl 2 eRw w (LT w.heap.size) A n rows) (hB : 1 ≤ B ∧ B ≤ 24) (hK : 1 ≤ K ∧ K ≤ 16) (hs : Sys B K rows) (r : Rw) (A1 A2 : Option Addr) (c1 c2 : Nat)
    (ha : Sl 1 eBool w (LT w.heap.size) A1 B r.has) (hd : Sl 1 eByte w (LT w.heap.size) A2 K r.data) :
    Calls Try.prog 55 #[.agg #[.int .i64 B, .int .i64 K, .slice A n c], .agg #[.slice A1 B c1, .slice A2 K c2]] w (AddPost w (sysAdd ⟨B, K, rows⟩ r)) := by
  have hlen := h.1
  have hn24 : n ≤ 24 := by have := hs.card; omega
  have hck : Hid (sysCheck B K rows = 0) := sysCheck_of hB hK hs
  have hfr : Hid (Fit B K r) := ⟨ha.1, hd.1⟩
  obtain ⟨B1, B2⟩ := hB
  obtain ⟨K1, K2⟩ := hK
  have t1 : ((B : Int) != (B : Int)) = false := by simp
  have t2 : ((K : Int) != (K : Int)) = false := by simp
  have l1 : Hid (B * 1 ≤ lim) := by unfold Hid lim; omega
  have l2 : Hid (K * 1 ≤ lim) := by unfold Hid lim; omega
  have P1 : 0 < B := B1
  have P2 : 0 < K := K1
  (have H := Lib.hid h; clear h; have Hs := Lib.hid hs; clear hs; have Ha := Lib.hid ha; clear ha; have Hd := Lib.hid hd; clear hd; have Hlen := Lib.hid hlen; clear hlen)
  go_enter Try.func55, Try.ntmps55
  go_wp2_with fail
  (with_reducible refine (sysCheck_any _ B K (wfI.mk (by omega)) (wfI.mk (by omega)) A n c rows (H.out.go sRw (by (repeat' (first | exact Below.refl _ _ | refine below_drewN ?_ _ | refine Below.drew ?_ | refine frA ?_ _)))) (by unfold maxLen; omega)).mono ?_)
  rw [hck.out]
  rintro e w1 ⟨rfl, hf1⟩
  have hb1 : w1.heap[w.heap.size]? = some (.cells #[.int .i64 B, .int .i64 K, .slice A n c] 97 (0, 0)) := blk_go (by (repeat' (with_reducible (first | (refine heap_new ?_; (first | (simp; done) | rfl); done) | refine heap_dn ?_ | refine heap_d ?_ | refine heap_old ?_)))) hf1
  have hr1 : w1.heap[w.heap.size + 1]? = some (.cells #[.slice A1 B c1, .slice A2 K c2] 106 (0, 0)) := blk_go (heap_old (heap_new (by simp))) hf1
  have hz1 : w1.heap[w.heap.size + 2]? = some (.cells #[.int .i64 0, .int .i64 0, .slice none 0 0] 97 (0, 0)) := blk_go (heap_new (by simp)) hf1
  have HF1 : Hid (Fr w w1) := Fr.trans (by (repeat' (first | exact Below.refl _ _ | refine below_drewN ?_ _ | refine Below.drew ?_ | refine frA ?_ _))) hf1
  (obtain ⟨u0, u1, u2⟩ := box3_ hb1)
  (obtain ⟨v0, v1⟩ := box2_ hr1)
  have HB1 := Lib.hid hb1
  have HR1 := Lib.hid hr1
  have HZ1 := Lib.hid hz1
  clear hf1 hb1 hr1 hz1
  go_wp2_with fail
  (with_reducible refine (sysCopy_any _ B K A n c rows (H.out.go sRw HF1.out) hn24 ⟨B1, B2⟩ ⟨K1, K2⟩ Hs.out.fit).mono ?_)
  rintro e w2 ⟨own, A3, c3, rfl, ⟨hc3, hm3⟩, hO, hf2⟩
  have hb2 := blk_go HB1.out hf2
  have hr2 := blk_go HR1.out hf2
  have hz2 := blk_go HZ1.out hf2
  have ls1 := (Array.getElem?_eq_some_iff.1 HZ1.out).1
  have ls2 := (Array.getElem?_eq_some_iff.1 hz2).1
  have q0 := blk_free (i := 0) hb2
  have q1 := blk_free (i := 1) hb2
  have q2 := blk_free (i := 2) hb2
  (obtain ⟨x0, x1, x2⟩ := box3_ hb2)
  clear u0 u1 u2 v0 v1
  (have Hb2 := Lib.hid hb2; clear hb2; have Hr2 := Lib.hid hr2; clear hr2; have Hz2 := Lib.hid hz2; clear hz2; have HO := Lib.hid hO; clear hO; have Hf2 := Lib.hid hf2; clear hf2)
  go_wp2_with fail
  obtain ⟨W3, hW3⟩ : ∃ W3, W3 = ((w2.setCell ⟨w.heap.size, 0, none⟩ (.int .i64 B)).setCell ⟨w.heap.size, 1, none⟩ (.int .i64 K)).setCell ⟨w.heap.size, 2, none⟩ (.slice A3 n c3) := ⟨_, rfl⟩
  have hC3 : Chg (fun b => b = w.heap.size) w2 W3 := by rw [hW3]; exact Chg.of (grw3_ ⟨rfl, rfl, rfl, Nat.le_refl _, fun _ _ _ => rfl⟩)
  have HB3 : Hid (W3.heap[w.heap.size]? = some (.cells #[.int .i64 B, .int .i64 K, .slice A3 n c3] 97 (0, 0))) := by rw [hW3]; exact stor3_ Hb2.out
  have hR3 := hC3.blk Hr2.out (by omega)
  have HZ3 := Lib.hid (hC3.blk Hz2.out (by omega))
  have HF3 : Hid (Fr w W3) := hC3.fr (HF1.out.trans Hf2.out) fun b hb => by rw [hb]; omega
  have HO3 := Lib.hid (HO.out.chg hC3 fun b hb => .inr (by rw [hb]; omega))
  have hs3 : w2.heap.size ≤ W3.heap.size := hC3.size
  have hs12 := Hf2.out.size
  rw [← hW3]
  clear hW3 hC3 q0 q1 q2 x0 x1 x2 Hb2 Hr2 Hz2 HO Hf2 HB1 HR1 HZ1 ls2
  have hr3 : W3.drew.heap[w.heap.size + 1]? = some (.cells #[.slice A1 B c1, .slice A2 K c2] 106 (0, 0)) := hR3
  have m0 : W3.cell? ⟨w.heap.size + 1, 0, none⟩ = some (.slice A1 B c1) := cell_of_heap hR3
  have m1 : W3.cell? ⟨w.heap.size + 1, 1, none⟩ = some (.slice A2 K c2) := cell_of_heap hR3
  have HR3 := Lib.hid hr3
  have HG3 : Hid (Fr W3 W3.drew) := (Below.refl _ _).drew
  have HA := Lib.hid (Ha.out.go sBool HF3.out)
  have HD := Lib.hid (Hd.out.go sByte HF3.out)
  clear hr3 hR3
  go_cut [] (fun wx => ∃ h ch d cd : Nat, Hid (RBx wx (w.heap.size + 1) h ch d cd B K r) ∧ (W3.heap.size ≤ h ∧ W3.heap.size ≤ d ∧ h ≠ d) ∧ (B ≤ ch ∧ ch ≤ maxLen) ∧ (K ≤ cd ∧ cd ≤ maxLen) ∧ Hid (Chg (fun b => b = w.heap.size + 1) W3 wx))
  case first =>
    go_region_with (first
      | (go_at_call 68; (with_reducible refine (cloneBools_blk _ _ _ _ r.has (HA.out.go sBool HG3.out) l1.out P1).mono ?_); rintro e w5 ⟨h, ch, rfl, hh, hk1, hch, hf5⟩; have HH := Lib.hid (Nat.le_trans HG3.out.size hh); (try (have HNE := Lib.hid (Nat.ne_of_gt (Nat.lt_of_lt_of_le HK2.out.lt hh)))); (try (have HK2 := Lib.hid (HK2.out.fr hf5))); have HK1 := Lib.hid hk1; have HCH := Lib.hid hch; have HG3 := Lib.hid (HG3.out.trans hf5); have HR3 := Lib.hid (blk_go HR3.out hf5); have m0 := cell_of_heap (i := 0) HR3.out; have m1 := cell_of_heap (i := 1) HR3.out; have z0 := blk_free (i := 0) HR3.out; have z1 := blk_free (i := 1) HR3.out; clear hf5 hk1 hh hch)
      | (go_at_call 28; (with_reducible refine (cloneBlock_blk _ _ _ _ r.data (HD.out.go sByte HG3.out) l2.out P2).mono ?_); rintro e w5 ⟨d, cd, rfl, hh, hk2, hcd, hf5⟩; have HD2 := Lib.hid (Nat.le_trans HG3.out.size hh); (try (have HNE := Lib.hid (Nat.ne_of_lt (Nat.lt_of_lt_of_le HK1.out.lt hh)))); (try (have HK1 := Lib.hid (HK1.out.fr hf5))); have HK2 := Lib.hid hk2; have HCD := Lib.hid hcd; have HG3 := Lib.hid (HG3.out.trans hf5); have HR3 := Lib.hid (blk_go HR3.out hf5); have m0 := cell_of_heap (i := 0) HR3.out; have m1 := cell_of_heap (i := 1) HR3.out; have z0 := blk_free (i := 0) HR3.out; have z1 := blk_free (i := 1) HR3.out; clear hf5 hk2 hh hcd)
      | fail)
    all_goals
      have hc6 : Hid (RBx ((w5.setCell ⟨w.heap.size + 1, 0, none⟩ (.slice (some ⟨h, 0, none⟩) B ch)).setCell ⟨w.heap.size + 1, 1, none⟩ (.slice (some ⟨d, 0, none⟩) K cd)) (w.heap.size + 1) h ch d cd B K r) := by
        have k6 : Chg (fun b => b = w.heap.size + 1) w5 ((w5.setCell ⟨w.heap.size + 1, 0, none⟩ (.slice (some ⟨h, 0, none⟩) B ch)).setCell ⟨w.heap.size + 1, 1, none⟩ (.slice (some ⟨d, 0, none⟩) K cd)) := Chg.set (S := fun b => b = w.heap.size + 1) (p := ⟨w.heap.size + 1, 1, none⟩) (Chg.set (S := fun b => b = w.heap.size + 1) (p := ⟨w.heap.size + 1, 0, none⟩) (Chg.refl _ _) rfl _) rfl _
        exact ⟨stor2_ HR3.out, HK1.out.chg k6 (by have := HH.out; omega), HK2.out.chg k6 (by have := HD2.out; omega)⟩
      have hc7 : Hid (Chg (fun b => b = w.heap.size + 1) W3 ((w5.setCell ⟨w.heap.size + 1, 0, none⟩ (.slice (some ⟨h, 0, none⟩) B ch)).setCell ⟨w.heap.size + 1, 1, none⟩ (.slice (some ⟨d, 0, none⟩) K cd))) := Chg.set (S := fun b => b = w.heap.size + 1) (p := ⟨w.heap.size + 1, 1, none⟩) (Chg.set (S := fun b => b = w.heap.size + 1) (p := ⟨w.heap.size + 1, 0, none⟩) (Fr.chg HG3.out) rfl _) rfl _
      go_wp2_with fail
      go_meet
      exact ⟨h, ch, d, cd, hc6, ⟨HH.out, HD2.out, HNE.out⟩, HCH.out, HCD.out, hc7⟩
  case rest =>
    obtain ⟨h, ch, d, cd, HX4, ⟨hh, hd, hne⟩, hch, hcd, HC4⟩ := hcut
    obtain ⟨W4, rfl⟩ : ∃ W4, W4 = wc := ⟨_, rfl⟩
    clear m0 m1 HG3 HR3 HA HD Ha Hd H HF1 l1 l2
    have HB4 := Lib.hid (HC4.out.blk HB3.out (by omega))
    obtain ⟨p4, hp4⟩ : ∃ p4, p4 = w.heap.size + 1 + 1 := ⟨_, rfl⟩
    have HZ4 : Hid (W4.heap[p4]? = some (.cells #[.int .i64 0, .int .i64 0, .slice none 0 0] 97 (0, 0))) := by rw [hp4]; exact HC4.out.blk HZ3.out (by omega)
    have hp41 : p4 ≤ w.heap.size + 2 := by omega
    have hp42 : w.heap.size + 2 ≤ p4 := by omega
    rw [← hp4]
    clear hp4
    have HF4 : Hid (Fr w W4) := HC4.out.fr HF3.out fun b hb => by rw [hb]; omega
    have HO4 := Lib.hid (HO3.out.chg HC4.out fun b hb => .inr (by rw [hb]; omega))
    have hs4 : W3.heap.size ≤ W4.heap.size := HC4.out.size
    clear HC4 HB3 HZ3 HF3 HO3
    have hb4 := HB4.out
    (obtain ⟨x0, x1, x2⟩ := box3_ hb4)
    clear hb4
    go_wp2_with fail
    go_loopw [46] (fun s46 wr => ∃ j : Nat, j ≤ n ∧ s46 = .int .i64 j ∧ Hid (RBx wr (w.heap.size + 1) h ch d cd B K (redRow (rows.take j) r)) ∧ Hid (Chg (fun b => b = h ∨ b = d) W4 wr)) (fun i _ => n - (intOf i).toNat)
    case atStart => exact ⟨0, Nat.zero_le _, rfl, by rw [List.take_zero]; exact HX4, Chg.refl _ _⟩
    case round =>
      obtain ⟨j, hj, rfl, HX, HC⟩ := hrel
      have hpw := HX.out.box
      have hbw := HC.out.blk HB4.out (by omega)
      have hfitj := Lib.hid (redRow_fit (rows := rows.take j) (r := r) (fun o ho => Hs.out.fit o (List.mem_of_mem_take ho)) hfr.out)
      by_cases hlt : j < n
      · obtain ⟨o, ho⟩ : ∃ o, rows[j]? = some o := ⟨_, List.getElem?_eq_getElem (by rw [Hlen.out]; exact hlt)⟩
        have hom := List.mem_of_getElem? ho
        have hfo := Hs.out.fit o hom
        obtain ⟨kf, hkf, _, hkB⟩ := Hs.out.leads hom
        have HOr := Lib.hid (HO4.out.chg HC.out fun b hb => .inl (by rcases hb with hb | hb <;> omega))
        obtain ⟨g, hA3, hM⟩ := HOr.out.pos (by rw [Hlen.out]; omega)
        have hrm := hM.hrow j o ho
        obtain ⟨h', ch', d', cd', o1, o2, hne', m0, m1, hch', hcd', kb1, kb2⟩ := hrm
        rw [hfo.1] at m0 hch'
        rw [hfo.2] at m1 hcd'
        have hgl := World.block_lt_of_cell? wr _ m0
        have oh := HOr.out.top.2.1 _ _ o1
        have od := HOr.out.top.2.1 _ _ o2
        obtain ⟨X, hXe⟩ : ∃ X, X = redRow (rows.take j) r := ⟨_, rfl⟩
        rw [← hXe] at HX hfitj
        obtain ⟨bt, hbt⟩ : ∃ bt, X.has[kf]? = some bt := ⟨_, List.getElem?_eq_getElem (by rw [hfitj.out.1]; exact hkB)⟩
        have hbit : X.bit kf = bt := by unfold Rw.bit; rw [List.getD_eq_getElem?_getD, hbt]; rfl
        have hstep := redRow_take (r := r) ho
        rw [← hXe, hkf, Int.toNat_natCast, hbit] at hstep
        have hcell := HX.out.has.cell hbt
        have HKF : Hid (idxF true o.has = (kf : Int)) := hkf
        have b1 : Hid (Sl 1 eBool wr (fun b => b < wr.heap.size ∧ b ≠ h ∧ b ≠ d) (some ⟨h', 0, none⟩) B o.has) := by
          rw [← hfo.1]; exact kb1.bools ⟨kb1.lt, by omega, by omega⟩
        have b2 : Hid (Sl 1 eByte wr (fun b => b < wr.heap.size ∧ b ≠ h ∧ b ≠ d) (some ⟨d', 0, none⟩) K o.data) := by
          rw [← hfo.2]; exact kb2.bytes ⟨kb2.lt, by omega, by omega⟩
        subst hA3
        have hzp := (Array.getElem?_eq_some_iff.1 hpw).1
        have m2 := cell_of_heap (i := 2) hbw
        have HPW := Lib.hid hpw
        (have Hstep := Lib.hid hstep; clear hstep; have HM := Lib.hid hM; clear hM; have HXe := Lib.hid hXe; clear hXe; have Hbt := Lib.hid hbt; clear hbt; have Hfo := Lib.hid hfo; clear hfo; have Kb1 := Lib.hid kb1; clear kb1; have Kb2 := Lib.hid kb2; clear kb2)
        clear hpw hbw hkf ho hom hbit o1 o2 HOr
        go_wp2_with fail
        obtain ⟨q, hq⟩ : ∃ q, q = wr.heap.size := ⟨_, rfl⟩
        obtain ⟨W5, hW5⟩ : ∃ W5, W5 = wr.alloc (.cells #[.slice (some ⟨h', 0, none⟩) B ch', .slice (some ⟨d', 0, none⟩) K cd'] 106) := ⟨_, rfl⟩
        have HQ5 : Hid (W5.drew.heap[q]? = some (.cells #[.slice (some ⟨h', 0, none⟩) B ch', .slice (some ⟨d', 0, none⟩) K cd'] 106 (0, 0))) := by rw [hW5]; exact heap_new hq
        have hF5 : Fr wr W5 := by rw [hW5]; exact frAlloc _ _
        have HX5 : Hid (RBx W5.drew (w.heap.size + 1) h ch d cd B K X) := HX.out.fr hF5.drew
        have HF5 := Lib.hid hF5
        have HG5 : Hid (Fr W5 W5.drew) := (Below.refl _ _).drew
        have b3 : Hid (Sl 1 eBool W5 (LT W5.heap.size) (some ⟨h', 0, none⟩) B o.has) := (b1.out.more sBool fun b hb => hb.1).go sBool hF5
        have hBm : B ≤ maxLen := by unfold maxLen; omega
        have hq5 : W5.heap.size = q + 1 := by rw [hW5, hq]; simp
        rw [← hW5, ← hq]
        have HQW := Lib.hid hq
        rw [← hq] at hgl hzp
        have HQ1 := Lib.hid hq5
        have hcx : W5.cell? ⟨h, kf, none⟩ = some (.bool bt) := HX5.out.has.cell Hbt.out
        clear hW5 hq hF5 m0 m1 m2 hcell hq5
        go_region_held3 (fun w' => w'.cell? ⟨w.heap.size + 1, 0, none⟩ = some (.slice (some ⟨h, 0, none⟩) B ch) ∧ w'.cell? ⟨q, 0, none⟩ = some (.slice (some ⟨h', 0, none⟩) B ch') ∧ w'.cell? ⟨q, 1, none⟩ = some (.slice (some ⟨d', 0, none⟩) K cd') ∧ w'.cell? ⟨h, kf, none⟩ = some (.bool bt)) (first | exact ⟨cell_of_heap HX5.out.box, cell_of_heap HQ5.out, cell_of_heap HQ5.out, HX5.out.has.cell Hbt.out⟩ | go_keep)
          (first
            | (go_at_call 69; (with_reducible refine (first_at _ _ _ _ _ _ _ o.has kf (b3.out.go sBool HG5.out) hBm HKF.out).mono ?_); rintro e w5 ⟨rfl, hf5⟩; have HG5 := Lib.hid (HG5.out.trans hf5); have HX5 := Lib.hid (HX5.out.fr hf5); have HQ5 := Lib.hid (blk_go HQ5.out hf5); clear hf5)
            | fail)
        have HC5 : Hid (Chg (fun b => b = h ∨ b = d) W4 w5) := HC.out.trans (HF5.out.trans HG5.out).chg
        have hbq := HQ5.out
        (obtain ⟨y0, y1⟩ := box2_ hbq)
        clear hbq
        have La := Lib.hid hfitj.out.1
        have Lb := Lib.hid hfitj.out.2
        have hpp := (Array.getElem?_eq_some_iff.1 HX5.out.box).1
        cases bt with
        | false =>
          have HN : Hid (redRow (rows.take (j + 1)) r = X) := by rw [Hid, Hstep.out, if_neg (by simp)]
          go_wp2_with fail
          go_roundw
          case rel => exact ⟨j + 1, by omega, by go_num, by rw [HN.out]; exact HX5, HC5⟩
          case measure => simp [intOf]; omega
        | true =>
          have HN : Hid (redRow (rows.take (j + 1)) r = rowAdd X o) := by rw [Hid, Hstep.out, if_pos rfl]
          have hbq := HX5.out.box
          (obtain ⟨z0, z1⟩ := box2_ hbq)
          clear hbq
          have hlB : B ≤ lim := by unfold lim; omega
          have hlK : K ≤ lim := by unfold lim; omega
          have NE1 : w.heap.size + 1 ≠ h := by omega
          have NE2 : w.heap.size + 1 ≠ d := by omega
          have f5 := HF5.out.trans HG5.out
          have b4 : Hid (Sl 1 eBool w5 (fun x => x < w5.heap.size ∧ x ≠ h ∧ x ≠ d) (some ⟨h', 0, none⟩) B o.has) := (b1.out.keep sBool fun p hp => f5.cell hp.1).more sBool fun b hb => ⟨Nat.lt_of_lt_of_le hb.1 f5.size, hb.2⟩
          have b5 : Hid (Sl 1 eByte w5 (fun x => x < w5.heap.size ∧ x ≠ h ∧ x ≠ d) (some ⟨d', 0, none⟩) K o.data) := (b2.out.keep sByte fun p hp => f5.cell hp.1).more sByte fun b hb => ⟨Nat.lt_of_lt_of_le hb.1 f5.size, hb.2⟩
          clear f5
          go_wp2_with fail
          (with_reducible refine (rowAdd_any w5 (w.heap.size + 1) 0 h d B ch K cd X o _ _ _ _ ch' cd' z0 z1 HX5.out.has HX5.out.data hne NE1 NE2 La.out Lb.out hlB hlK b4.out b5.out).mono ?_)
          rintro e w6 ⟨rfl, k1', k2', k3'⟩
          have HX6 : Hid (RBx w6 (w.heap.size + 1) h ch d cd B K (rowAdd X o)) := ⟨k3'.blk HX5.out.box (by omega), k1', k2'⟩
          have HC6 : Hid (Chg (fun b => b = h ∨ b = d) W4 w6) := HC5.out.trans k3'
          clear k1' k2' k3' HX5 HQ5 HG5 y0 y1 z0 z1 b4 b5
          go_wp2_with fail
          go_roundw
          case rel => exact ⟨j + 1, by omega, by go_num, by rw [HN.out]; exact HX6, HC6⟩
          case measure => simp [intOf]; omega
      · obtain rfl : j = n := by omega
        rw [List.take_of_length_le (by rw [Hlen.out]; exact Nat.le_refl _)] at HX hfitj
        obtain ⟨X, hXe⟩ : ∃ X, X = redRow rows r := ⟨_, rfl⟩
        rw [← hXe] at HX hfitj
        have HO5 := Lib.hid (HO4.out.chg HC.out fun b hb => .inl (by rcases hb with hb | hb <;> omega))
        have HF5 : Hid (Fr w wr) := HC.out.fr HF4.out fun b hb => by rcases hb with hb | hb <;> omega
        have HZ5 := Lib.hid (HC.out.blk HZ4.out (by omega))
        have HB5 := Lib.hid hbw
        have hs5 : W4.heap.size ≤ wr.heap.size := HC.out.size
        clear HO4 HF4 HZ4 HB4 HC hbw hpw HX4
        obtain ⟨W5, rfl⟩ : ∃ W5, W5 = wr := ⟨_, rfl⟩
        have hbq := HX.out.box
        (obtain ⟨z0, z1⟩ := box2_ hbq)
        clear hbq
        have hbx : Hid (Sl 1 eBool W5 (LT W5.heap.size) (some ⟨h, 0, none⟩) B X.has) := by rw [← hfitj.out.1]; exact HX.out.has.bools HX.out.has.lt
        have hBm : B ≤ maxLen := by unfold maxLen; omega
        (have HXe := Lib.hid hXe; clear hXe)
        have hsck := hck.out
        obtain ⟨kx, hkx⟩ : ∃ kx, kx = X.fst := ⟨_, rfl⟩
        have HKX : Hid (idxF true X.has = kx) := hkx.symm
        by_cases hneg : kx < 0
        · have hxr : Hid ((redRow rows r).fst < 0) := by rw [Hid, ← HXe.out, ← hkx]; exact hneg
          have hdt : Hid (Sl 1 eByte W5 (LT W5.heap.size) (some ⟨d, 0, none⟩) K X.data) := by rw [← hfitj.out.2]; exact HX.out.data.bytes HX.out.data.lt
          have hKm : K ≤ maxLen := by unfold maxLen; omega
          cases hall : X.data.all (fun b => b == 0) with
          | true =>
            have E : Hid (sysAdd ⟨B, K, rows⟩ r = (⟨B, K, rows⟩, false, 0)) := sysAdd_same hsck hfr.out hxr.out (by rw [← HXe.out]; exact hall)
            have HAL := Lib.hid hall
            clear hsck hkx hall
            go_wp2_with fail
            (with_reducible refine (first_any _ _ _ _ _ _ _ X.has hbx.out hBm).mono ?_)
            rw [HKX.out]
            rintro e w6 ⟨rfl, hf6⟩
            have HX6 := Lib.hid (HX.out.fr hf6)
            have hbq := HX6.out.box
            (obtain ⟨z0, z1⟩ := box2_ hbq)
            have HF6 := Lib.hid hf6
            clear hbq hf6
            go_wp2_with fail
            (with_reducible refine (containsNot_any _ _ _ _ _ X.data (hdt.out.go sByte HF6.out) hKm).mono ?_)
            rw [HAL.out]
            rintro e w7 ⟨rfl, rfl⟩
            have hb6 := blk_go HB5.out HF6.out
            (obtain ⟨x0, x1, x2⟩ := box3_ hb6)
            have hz6 := blk_go HZ5.out HF6.out
            (obtain ⟨u0, u1, u2⟩ := box3_ hz6)
            have y0 := blk_free (i := 0) hz6
            have y1 := blk_free (i := 1) hz6
            have y2 := blk_free (i := 2) hz6
            have hzl := (Array.getElem?_eq_some_iff.1 hz6).1
            have hC7 : Chg (fun b => b = p4) w6 (((w6.setCell ⟨p4, 0, none⟩ (.int .i64 B)).setCell ⟨p4, 1, none⟩ (.int .i64 K)).setCell ⟨p4, 2, none⟩ (.slice A3 j c3)) := Chg.of (grw3_ ⟨rfl, rfl, rfl, Nat.le_refl _, fun _ _ _ => rfl⟩)
            have HC7 := Lib.hid hC7
            clear hb6 hz6 hC7
            go_wp2_with fail
            refine bodyPost_ret (v := .tuple #[.agg #[.int .i64 B, .int .i64 K, .slice A3 j c3], .bool false, .int .i64 0]) ?_ rfl ?_
            · simp [results, Try.results55, go_sem, u0, u1, u2, hzl]
            · have hO7 := (HO5.out.chg HF6.out.chg (S := fun _ => False) fun b hb => hb.elim).chg HC7.out fun b hb => .inr (by rw [hb]; omega)
              obtain ⟨A7, c7, e7, hc7, hs7⟩ := (hO7.toOwn B2 K2 Hs.out.fit).toNw sRw
              injection e7 with e7 e8 e9
              subst e7 e9
              rw [Hlen.out] at hs7
              rw [E.out]
              refine ⟨A3, j, c3, rfl, ⟨hn24, hc3, hm3⟩, hs7.more sRw fun b hb => ⟨by have := hb.1; omega, hb.2⟩, ?_⟩
              exact HC7.out.fr (HF5.out.trans HF6.out) fun b hb => by rw [hb]; omega
          | false =>
            have E : Hid (sysAdd ⟨B, K, rows⟩ r = (Sy.none, false, 9)) := sysAdd_torn hsck hfr.out hxr.out (by rw [← HXe.out]; exact hall)
            have HAL := Lib.hid hall
            clear hsck hkx hall
            go_wp2_with fail
            (with_reducible refine (first_any _ _ _ _ _ _ _ X.has hbx.out hBm).mono ?_)
            rw [HKX.out]
            rintro e w6 ⟨rfl, hf6⟩
            have HX6 := Lib.hid (HX.out.fr hf6)
            have hbq := HX6.out.box
            (obtain ⟨z0, z1⟩ := box2_ hbq)
            have HF6 := Lib.hid hf6
            clear hbq hf6
            go_wp2_with fail
            (with_reducible refine (containsNot_any _ _ _ _ _ X.data (hdt.out.go sByte HF6.out) hKm).mono ?_)
            rw [HAL.out]
            rintro e w7 ⟨rfl, rfl⟩
            have hz6 := blk_go HZ5.out HF6.out
            (obtain ⟨u0, u1, u2⟩ := box3_ hz6)
            have y0 := blk_free (i := 0) hz6
            have y1 := blk_free (i := 1) hz6
            have y2 := blk_free (i := 2) hz6
            have hzl := (Array.getElem?_eq_some_iff.1 hz6).1
            clear hz6
            go_wp2_with fail
            refine bodyPost_ret (v := .tuple #[.agg #[.int .i64 0, .int .i64 0, .slice none 0 0], .bool false, .int .i64 9]) ?_ rfl ?_
            · simp [results, Try.results55, go_sem, u0, u1, u2, hzl]
            · rw [E.out]
              refine ⟨none, 0, 0, rfl, ⟨by omega, by omega, by unfold maxLen; omega⟩, Sl.nil, ?_⟩
              exact bel3_ (HF5.out.trans HF6.out) (by omega)
        · obtain ⟨k, rfl⟩ : ∃ k : Nat, kx = (k : Int) := ⟨kx.toNat, by omega⟩
          have E : Hid (sysAdd ⟨B, K, rows⟩ r = (⟨B, K, insRow rows k X⟩, true, 0)) := by rw [Hid, HXe.out]; exact sysAdd_new hsck hfr.out (by rw [← HXe.out]; exact hkx.symm)
          have HLD : Hid (Lead (vc X) k) := fst_lead.1 hkx.symm
          have hkB : k < B := lead_lt hfitj.out HLD.out.1
          clear hsck hkx hneg
          go_wp2_with fail
          (with_reducible refine (first_at _ _ _ _ _ _ _ X.has k hbx.out hBm HKX.out).mono ?_)
          rintro e w6 ⟨rfl, hf6⟩
          have HX6 := Lib.hid (HX.out.fr hf6)
          have HB6 := Lib.hid (blk_go HB5.out hf6)
          have HZ6 := Lib.hid (blk_go HZ5.out hf6)
          have HO6 := Lib.hid (HO5.out.chg (hf6.chg (S := fun _ => False)) fun b hb => hb.elim)
          have HF6 : Hid (Fr w w6) := HF5.out.trans hf6
          have hs6 : W5.heap.size ≤ w6.heap.size := hf6.size
          have hb6 := HB6.out
          (obtain ⟨x0, x1, x2⟩ := box3_ hb6)
          clear hb6 hf6 HX HB5 HZ5 HO5 HF5 z0 z1 hbx
          obtain ⟨Kb, hKb⟩ : ∃ Kb : Nat → Prop, Kb = fun b => ∃ i, own b = some i := ⟨_, rfl⟩
          have HKb := Lib.hid hKb
          have HKl : Hid (∀ b, Kb b → w1.heap.size ≤ b ∧ b < w2.heap.size) := fun b hb => by rw [hKb] at hb; obtain ⟨i, e⟩ := hb; exact ⟨HO6.out.low b i e, HO6.out.top.2.1 b i e⟩
          clear hKb
          go_wp2_with fail
          go_loopw [11, 74] (fun s11 s74 wr => ∃ i : Nat, i ≤ j ∧ s74 = .int .i64 i ∧ s11 = .int .i64 (atTo k X rows i : Nat) ∧ Hid (SysO wr own w1.heap.size w2.heap.size A3 c3 (outTo k X rows i)) ∧ Hid (Chg Kb w6 wr)) (fun _ i _ => j - (intOf i).toNat)
          case atStart => exact ⟨0, Nat.zero_le _, rfl, by rw [atTo_zero, Hlen.out], by rw [outTo_zero]; exact HO6, Chg.refl _ _⟩
          case round =>
            obtain ⟨i, hi, rfl, rfl, HO, HC⟩ := hrel
            have HBr := Lib.hid (HC.out.blk HB6.out fun e => by have := HKl.out _ e; omega)
            have HXr := Lib.hid (HX6.out.chg HC.out (fun e => by have := HKl.out _ e; omega) (fun e => by have := HKl.out _ e; omega) (fun e => by have := HKl.out _ e; omega))
            have hbr := HBr.out
            (obtain ⟨v0, v1, v2⟩ := box3_ hbr)
            clear hbr
            by_cases hlt : i < j
            · obtain ⟨o, ho⟩ : ∃ o, rows[i]? = some o := ⟨_, List.getElem?_eq_getElem (by rw [Hlen.out]; exact hlt)⟩
              have hfo := Hs.out.fit o (List.mem_of_getElem? ho)
              have hol := length_outTo (k := k) (r := X) (rows := rows) (i := i) (by rw [Hlen.out]; omega)
              rw [Hlen.out] at hol
              obtain ⟨g, hA3, hM⟩ := HO.out.pos (by omega)
              have hrm := hM.hrow i o (outTo_get ho)
              subst hA3
              obtain ⟨h', ch', d', cd', o1, o2, hne', m0, m1, hch', hcd', kb1, kb2⟩ := hrm
              rw [hfo.1] at m0 hch'
              rw [hfo.2] at m1 hcd'
              obtain ⟨bt, hbt⟩ : ∃ bt, o.has[k]? = some bt := ⟨_, List.getElem?_eq_getElem (by rw [hfo.1]; exact hkB)⟩
              have hbit : o.bit k = bt := by unfold Rw.bit; rw [List.getD_eq_getElem?_getD, hbt]; rfl
              have hcell := kb1.cell hbt
              have hstep := outTo_succ (k := k) (r := X) ho
              have hats := atTo_succ (k := k) (r := X) ho
              rw [Hlen.out] at hats
              have hale := atTo_le k X rows i
              rw [Hlen.out] at hale
              obtain ⟨oh1, oh2⟩ := HKl.out h' (by rw [HKb.out]; exact ⟨i, o1⟩)
              obtain ⟨od1, od2⟩ := HKl.out d' (by rw [HKb.out]; exact ⟨i, o2⟩)
              have hg1 := hM.hbase
              have hg2 : g < w2.heap.size := HO.out.top.1 _ rfl
              have hgh := (hM.hown _ _ o1).2.1
              have hgd := (hM.hown _ _ o2).2.1
              obtain ⟨at_, hat_⟩ : ∃ a, a = atTo k X rows i := ⟨_, rfl⟩
              rw [← hat_] at hats hale ⊢
              obtain ⟨O, hOe⟩ : ∃ O, O = outOf k X o := ⟨_, rfl⟩
              rw [← hOe] at hstep hats
              have HOf : Hid (Fit B K O) := by rw [hOe]; exact outOf_fit hfitj.out hfo
              have HOe : Hid (O = if bt then rowAdd o X else o) := by rw [Hid, hOe]; unfold outOf; rw [hbit]
              have La := Lib.hid hfo.1
              have Lb := Lib.hid hfo.2
              have HOW1 := Lib.hid o1
              have HOW2 := Lib.hid o2
              (have Hstep := Lib.hid hstep; clear hstep; have Hats := Lib.hid hats; clear hats; have Hat_ := Lib.hid hat_; clear hat_; have HM := Lib.hid hM; clear hM; have Kb1 := Lib.hid kb1; clear kb1; have Kb2 := Lib.hid kb2; clear kb2; have Ho := Lib.hid ho; clear ho)
              clear hbt hbit hol hOe o1 o2 hfo
              go_upto_if 85 with fail
              go_cut [] (fun wx => Hid (SysO wx own w1.heap.size w2.heap.size (some ⟨g, 0, none⟩) c3 (outTo k X rows (i + 1))) ∧ Hid (Chg Kb w6 wx))
              case first =>
                cases bt with
                | false =>
                  have hN : Hid (outTo k X rows (i + 1) = outTo k X rows i) := by
                    rw [Hid, ← Hstep.out, HOe.out, if_neg (by simp)]
                    apply List.ext_getElem?
                    intro m
                    rw [List.getElem?_set]
                    split
                    · rename_i e; subst e
                      split
                      · exact (outTo_get Ho.out).symm
                      · rename_i e; rw [List.getElem?_eq_none (by omega)]
                    · rfl
                  go_wp2_with fail
                  go_meet
                  exact ⟨by rw [hN.out]; exact HO, HC⟩
                | true =>
                  have hbq := HXr.out.box
                  (obtain ⟨z0, z1⟩ := box2_ hbq)
                  clear hbq
                  have hlB : B ≤ lim := by unfold lim; omega
                  have hlK : K ≤ lim := by unfold lim; omega
                  have b4 : Hid (Sl 1 eBool wr (fun x => x < wr.heap.size ∧ x ≠ h' ∧ x ≠ d') (some ⟨h, 0, none⟩) B X.has) := by
                    rw [← hfitj.out.1]; exact HXr.out.has.bools ⟨HXr.out.has.lt, by omega, by omega⟩
                  have b5 : Hid (Sl 1 eByte wr (fun x => x < wr.heap.size ∧ x ≠ h' ∧ x ≠ d') (some ⟨d, 0, none⟩) K X.data) := by
                    rw [← hfitj.out.2]; exact HXr.out.data.bytes ⟨HXr.out.data.lt, by omega, by omega⟩
                  go_wp2_with fail
                  go_still_tail 5, (by kernel_rfl)
                  go_wp2_with fail
                  have m0d : wr.drew.cell? ⟨g, i * 2, none⟩ = some (.slice (some ⟨h', 0, none⟩) B ch') := m0
                  have m1d : wr.drew.cell? ⟨g, i * 2 + 1, none⟩ = some (.slice (some ⟨d', 0, none⟩) K cd') := m1
                  have KD1 : Hid (Blk Value.bool wr.drew 4 h' o.has) := Kb1.out
                  have KD2 : Hid (Blk bV wr.drew 5 d' o.data) := Kb2.out
                  have BD4 : Hid (Sl 1 eBool wr.drew (fun x => x < wr.drew.heap.size ∧ x ≠ h' ∧ x ≠ d') (some ⟨h, 0, none⟩) B X.has) := b4.out.keep sBool fun _ _ => rfl
                  have BD5 : Hid (Sl 1 eByte wr.drew (fun x => x < wr.drew.heap.size ∧ x ≠ h' ∧ x ≠ d') (some ⟨d, 0, none⟩) K X.data) := b5.out.keep sByte fun _ _ => rfl
                  (with_reducible refine (rowAdd_any _ g (i * 2) h' d' B ch' K cd' o X _ _ _ _ ch cd m0d m1d KD1.out KD2.out hne' (Ne.symm hgh) (Ne.symm hgd) La.out Lb.out hlB hlK BD4.out BD5.out).mono ?_)
                  rintro e w7 ⟨rfl, q1, q2, q3⟩
                  have hq : Chg (fun b => b = h' ∨ b = d') wr w7 := ⟨q3.os, q3.tape, q3.output, q3.size, q3.block⟩
                  have hRM : RowM w7 own g i O := by
                    rw [HOe.out, if_pos trivial]
                    refine ⟨h', ch', d', cd', HOW1.out, HOW2.out, hne', ?_, ?_, ?_, ?_, q1, q2⟩
                    · rw [show (rowAdd o X).has.length = B by show (bx o.has X.has).length = B; rw [length_bx (by rw [La.out, hfitj.out.1]), La.out]]
                      exact (hq.cell (p := ⟨g, i * 2, none⟩) (World.block_lt_of_cell? wr _ m0) (by rintro (e | e) <;> simp at e <;> omega)).trans m0
                    · rw [show (rowAdd o X).data.length = K by show (zx o.data X.data).length = K; rw [length_zx (by rw [Lb.out, hfitj.out.2]), Lb.out]]
                      exact (hq.cell (p := ⟨g, i * 2 + 1, none⟩) (World.block_lt_of_cell? wr _ m1) (by rintro (e | e) <;> simp at e <;> omega)).trans m1
                    · rw [show (rowAdd o X).has.length = B by show (bx o.has X.has).length = B; rw [length_bx (by rw [La.out, hfitj.out.1]), La.out]]
                      exact hch'
                    · rw [show (rowAdd o X).data.length = K by show (zx o.data X.data).length = K; rw [length_zx (by rw [Lb.out, hfitj.out.2]), Lb.out]]
                      exact hcd'
                  have HO7 : Hid (SysO w7 own w1.heap.size w2.heap.size (some ⟨g, 0, none⟩) c3 (outTo k X rows (i + 1))) := by
                    rw [← Hstep.out]
                    refine HO.out.set (by rw [length_outTo (by rw [Hlen.out]; omega), Hlen.out]; exact hlt) (hq.more fun b hb => ?_) hRM
                    rcases hb with rfl | rfl
                    · exact HOW1.out
                    · exact HOW2.out
                  have HC7 : Hid (Chg Kb w6 w7) := HC.out.trans (hq.more fun b hb => by
                    rw [HKb.out]
                    rcases hb with rfl | rfl
                    · exact ⟨i, HOW1.out⟩
                    · exact ⟨i, HOW2.out⟩)
                  clear q1 q2 q3 hq hRM
                  go_wp2_with fail
                  go_meet
                  exact ⟨HO7, HC7⟩
              case rest =>
                obtain ⟨HO7, HC7⟩ := hcut
                obtain ⟨W7, rfl⟩ : ∃ W7, W7 = wc := ⟨_, rfl⟩
                clear m0 m1 hcell Kb1 Kb2 HM HO HC HBr HXr v0 v1 v2
                have hb7 := HC7.out.blk HB6.out fun e => by have := HKl.out _ e; omega
                (obtain ⟨v0, v1, v2⟩ := box3_ hb7)
                clear hb7
                have hm7 := (HO7.out.pos (by rw [length_outTo (by rw [Hlen.out]; omega), Hlen.out]; omega))
                obtain ⟨g', e', hM7⟩ := hm7
                injection e' with e'
                injection e' with e'
                subst e'
                have hO7 : (outTo k X rows (i + 1))[i]? = some O := by rw [← Hstep.out, List.getElem?_set_self (by rw [length_outTo (by rw [Hlen.out]; omega), Hlen.out]; exact hlt)]
                obtain ⟨h7, ch7, d7, cd7, o1, o2, _, m0, m1, _, _, kb1, kb2⟩ := hM7.hrow i O hO7
                rw [HOf.out.1] at m0
                rw [HOf.out.2] at m1
                have hB7 : Hid (Sl 1 eBool W7 (LT W7.heap.size) (some ⟨h7, 0, none⟩) B O.has) := by rw [← HOf.out.1]; exact kb1.bools kb1.lt
                clear o1 o2 kb1 kb2 hM7 hO7
                by_cases hat : at_ = j
                · have e1 : ((at_ : Int) == (j : Int)) = true := by simp [hat]
                  obtain ⟨kq, hkq⟩ : ∃ kq, kq = O.fst := ⟨_, rfl⟩
                  have HKQ : Hid (idxF true O.has = kq) := hkq.symm
                  rw [← hkq] at Hats
                  by_cases hgt : (k : Int) < kq
                  · have HN : Hid (atTo k X rows (i + 1) = i) := by rw [Hid, Hats.out, if_pos ⟨hat, hgt⟩]
                    clear hkq hat
                    go_wp2_with fail
                    (with_reducible refine (first_any _ _ _ _ _ _ _ O.has hB7.out hBm).mono ?_)
                    rw [HKQ.out]
                    rintro e w8 ⟨rfl, hf8⟩
                    have HO8 := Lib.hid (HO7.out.chg (hf8.chg (S := fun _ => False)) fun b hb => hb.elim)
                    have HC8 : Hid (Chg Kb w6 w8) := HC7.out.trans hf8.chg
                    clear hf8
                    go_wp2_with fail
                    go_roundw
                    case rel => exact ⟨i + 1, by omega, by go_num, by rw [HN.out], HO8, HC8⟩
                    case measure => simp [intOf]; omega
                  · have HN : Hid (atTo k X rows (i + 1) = at_) := by rw [Hid, Hats.out, if_neg (fun e => hgt e.2)]
                    have hgt2 : ¬ ((k : Int) < kq) := hgt
                    clear hkq hat hgt
                    go_wp2_with fail
                    (with_reducible refine (first_any _ _ _ _ _ _ _ O.has hB7.out hBm).mono ?_)
                    rw [HKQ.out]
                    rintro e w8 ⟨rfl, hf8⟩
                    have HO8 := Lib.hid (HO7.out.chg (hf8.chg (S := fun _ => False)) fun b hb => hb.elim)
                    have HC8 : Hid (Chg Kb w6 w8) := HC7.out.trans hf8.chg
                    clear hf8
                    go_wp2_with fail
                    go_roundw
                    case rel => exact ⟨i + 1, by omega, by go_num, by rw [HN.out], HO8, HC8⟩
                    case measure => simp [intOf]; omega
                · have e1 : ((at_ : Int) == (j : Int)) = false := by simp; omega
                  have HN : Hid (atTo k X rows (i + 1) = at_) := by rw [Hid, Hats.out, if_neg (fun e => hat e.1)]
                  clear hat
                  go_wp2_with fail
                  go_roundw
                  case rel => exact ⟨i + 1, by omega, by go_num, by rw [HN.out], HO7, HC7⟩
                  case measure => simp [intOf]; omega
            · obtain rfl : i = j := by omega
              have ha0 := atTo_all k X rows
              rw [Hlen.out] at ha0
              have ho0 := outTo_all k X rows
              rw [Hlen.out] at ho0
              have hal := atTo_le k X rows i
              rw [Hlen.out] at hal
              rw [ho0] at HO
              rw [ha0] at hal ⊢
              obtain ⟨R', hR'⟩ : ∃ R', R' = rows.map (outOf k X) := ⟨_, rfl⟩
              obtain ⟨at_, hat_⟩ : ∃ a, a = insAt k (rows.map (outOf k X)) := ⟨_, rfl⟩
              have hRl : R'.length = i := by rw [hR', List.length_map, Hlen.out]
              have hEi : Hid (insRow rows k X = R'.take at_ ++ X :: R'.drop at_) := by rw [Hid, hR', hat_]; rfl
              have hRf : Hid (∀ o ∈ R', Fit B K o) := by
                rw [hR']; intro o ho
                obtain ⟨x, hx, rfl⟩ := List.mem_map.1 ho
                exact outOf_fit hfitj.out (Hs.out.fit x hx)
              rw [← hR'] at HO
              rw [← hat_] at hal ⊢
              clear ha0 ho0 hR' hat_
              have hbq := HXr.out.box
              (obtain ⟨z0, z1⟩ := box2_ hbq)
              clear hbq
              go_wp2_with fail
              obtain ⟨W8, hW8⟩ : ∃ W8, W8 = wr.alloc (.cells #[.slice (some ⟨h, 0, none⟩) B ch, .slice (some ⟨d, 0, none⟩) K cd] 106) := ⟨_, rfl⟩
              have hf8 : Fr wr W8 := by rw [hW8]; exact frAlloc _ _
              have HV8 : Hid (W8.heap[wr.heap.size]? = some (.cells #[.slice (some ⟨h, 0, none⟩) B ch, .slice (some ⟨d, 0, none⟩) K cd] 106 (0, 0))) := by rw [hW8]; exact heap_new rfl
              have HO8 := HO.out.chg (hf8.chg (S := fun _ => False)) fun b hb => hb.elim
              have HX8 := HXr.out.fr hf8
              have HB8 := Lib.hid (blk_go HBr.out hf8)
              have HZ8 : Hid (W8.heap[p4]? = some (.cells #[.int .i64 0, .int .i64 0, .slice none 0 0] 97 (0, 0))) := blk_go (HC.out.blk HZ6.out fun e => by have := HKl.out _ e; omega) hf8
              have HF8 : Hid (Fr w W8) := (HC.out.fr HF6.out fun b hb => by have := (HKl.out _ hb).1; omega).trans hf8
              have hs8 : w6.heap.size ≤ wr.heap.size := HC.out.size
              have hown := HO8.toOwn B2 K2 hRf.out
              rw [hRl] at hown
              have hA3 : (Value.slice A3 i c3).ownBlock ≠ some wr.heap.size := by
                intro e
                cases A3 with
                | none => cases e
                | some a => have := HO8.top.1 a rfl; injection e with e; omega
              have hvs : Hid (eHi w1.heap.size eRw W8 (fun b => b < W8.heap.size ∧ (Value.slice A3 i c3).ownBlock ≠ some b) (fun j => [Value.slice (some ⟨h, 0, none⟩) B ch, .slice (some ⟨d, 0, none⟩) K cd][j]?) X) := by
                have far : ∀ b, w2.heap.size ≤ b → (Value.slice A3 i c3).ownBlock ≠ some b := fun b hb e => by
                  cases A3 with
                  | none => cases e
                  | some a => have := HO8.top.1 a rfl; injection e with e; omega
                have hb1 := HX8.has.bools (S := fun b => (b < W8.heap.size ∧ (Value.slice A3 i c3).ownBlock ≠ some b) ∧ w1.heap.size ≤ b) ⟨⟨HX8.has.lt, far h (by omega)⟩, by omega⟩
                have hb2 := HX8.data.bytes (S := fun b => (b < W8.heap.size ∧ (Value.slice A3 i c3).ownBlock ≠ some b) ∧ w1.heap.size ≤ b) ⟨⟨HX8.data.lt, far d (by omega)⟩, by omega⟩
                rw [hfitj.out.1] at hb1
                rw [hfitj.out.2] at hb2
                exact eRw_iff.2 ⟨_, _, _, _, _, _, ⟨rfl, rfl⟩, ⟨⟨by unfold lim; omega, hch⟩, hb1⟩, ⟨⟨by unfold lim; omega, hcd⟩, hb2⟩⟩
              have HOW := Lib.hid hown
              have HFAR : Hid (∀ b, b < w1.heap.size → (Value.slice A3 i c3).ownBlock ≠ some b) := fun b hb => hown.far hb
              have hlm : (R'.length + 1) * 48 ≤ lim := by unfold lim; omega
              have hbs : w1.heap.size ≤ W8.heap.size := by have := hf8.size; omega
              have hone : ∀ u ∈ [Value.slice (some ⟨h, 0, none⟩) B ch, .slice (some ⟨d, 0, none⟩) K cd], u.oneCell' = true := by intro u hu; simp at hu; rcases hu with rfl | rfl <;> rfl
              have hal' : at_ ≤ R'.length := by omega
              have HCT := Lib.hid (insertRows_own (N := w1.heap.size) W8 w1.heap.size at_ wr.heap.size (.slice A3 i c3) R' X _ _ HOW.out hal' HV8.out hA3 rfl hone hvs.out hlm hbs)
              rw [← hW8]
              clear hW8 hf8 HO8 HX8 hown hA3 hone hvs HOW HX6 HXr HO HC HBr HB6 HZ6 HF6 v0 v1 v2 z0 z1
              (with_reducible refine (HCT.out).mono ?_)
              rintro e w9 ⟨v', rfl, ho9, hG9⟩
              have hb9 : w9.heap[w.heap.size]? = some (.cells #[.int .i64 B, .int .i64 K, .slice A3 i c3] 97 (0, 0)) := (hG9.block _ (Array.getElem?_eq_some_iff.1 HB8.out).1 fun e => HFAR.out _ (by omega) e.symm).trans HB8.out
              have hz9 : w9.heap[p4]? = some (.cells #[.int .i64 0, .int .i64 0, .slice none 0 0] 97 (0, 0)) := (hG9.block _ (Array.getElem?_eq_some_iff.1 HZ8.out).1 fun e => HFAR.out _ (by omega) e.symm).trans HZ8.out
              have HF9 : Hid (Fr w w9) := ⟨hG9.os.trans HF8.out.os, hG9.tape.trans HF8.out.tape, hG9.output.trans HF8.out.output, Nat.le_trans HF8.out.size hG9.size, fun b hb => (hG9.block b (Nat.lt_of_lt_of_le hb HF8.out.size) fun e => HFAR.out b (by omega) e.symm).trans (HF8.out.block b hb)⟩
              obtain ⟨A9, c9, rfl, ⟨hc9, hm9⟩, _⟩ := ho9.slC (sRw.hi _) (by decide)
              have hl9 : (R'.take at_ ++ X :: R'.drop at_).length = i + 1 := by simp only [List.length_append, List.length_take, List.length_cons, List.length_drop]; omega
              rw [hl9] at ho9 hc9 ⊢
              have hn9 : i + 1 ≤ 24 := by have := (insRow_sys Hs.out hfitj.out HLD.out (by have := redRow_clean Hs.out hfr.out; rw [← HXe.out] at this; exact this)).1.card; rw [length_insRow, Hlen.out] at this; omega
              (obtain ⟨x0, x1, x2⟩ := box3_ hb9)
              (obtain ⟨u0, u1, u2⟩ := box3_ hz9)
              have q2 := blk_free (i := 2) hb9
              have y0 := blk_free (i := 0) hz9
              have y1 := blk_free (i := 1) hz9
              have y2 := blk_free (i := 2) hz9
              have hbl := (Array.getElem?_eq_some_iff.1 hb9).1
              have hzl := (Array.getElem?_eq_some_iff.1 hz9).1
              have hp4 : w.heap.size ≠ p4 := by omega
              have hC9 : Chg (fun b => b = w.heap.size ∨ b = p4) w9 ((((w9.setCell ⟨w.heap.size, 2, none⟩ (.slice A9 (i + 1) c9)).setCell ⟨p4, 0, none⟩ (.int .i64 B)).setCell ⟨p4, 1, none⟩ (.int .i64 K)).setCell ⟨p4, 2, none⟩ (.slice A9 (i + 1) c9)) :=
                Chg.set (p := ⟨p4, 2, none⟩) (Chg.set (p := ⟨p4, 1, none⟩) (Chg.set (p := ⟨p4, 0, none⟩) (Chg.set (p := ⟨w.heap.size, 2, none⟩) (Chg.refl _ _) (.inl rfl) _) (.inr rfl) _) (.inr rfl) _) (.inr rfl) _
              have HC9 := Lib.hid hC9
              have HO9 := Lib.hid ho9
              have HG9 := Lib.hid hG9
              clear hb9 hz9 hC9 ho9 hl9 hG9
              go_wp2_with fail
              refine bodyPost_ret (v := .tuple #[.agg #[.int .i64 B, .int .i64 K, .slice A9 (i + 1) c9], .bool true, .int .i64 0]) ?_ rfl ?_
              · simp [results, Try.results55, go_sem, u0, u1, u2, hzl]
              · rw [E.out]
                have ho10 := HO9.out.hiChg sRw HC9.out fun b hb => by rcases hb with rfl | rfl <;> omega
                obtain ⟨A10, c10, e10, _, hs10⟩ := ho10.toNw sRw
                injection e10 with e10 e11 e12
                subst e10 e12
                rw [← e11] at hs10
                refine ⟨A9, i + 1, c9, rfl, ⟨hn9, hc9, hm9⟩, ?_, ?_⟩
                · show Sl 2 eRw _ _ A9 (i + 1) (insRow rows k X)
                  rw [hEi.out]; exact hs10.more sRw fun b hb => ⟨by have := hb.1; omega, hb.2⟩
                · exact HC9.out.fr HF9.out fun b hb => by rcases hb with rfl | rfl <;> omega
end Go.Proofs.Ytojoodmnmhcojaa
