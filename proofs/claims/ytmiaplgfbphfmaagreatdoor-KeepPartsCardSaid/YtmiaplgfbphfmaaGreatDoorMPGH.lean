/- The closed fact on a place. No condition. -/
import Derived.Test.YtmiaplgfbphfmaaGreatDoorMPGE
import Derived.Test.YtmiaplgfbphfmaaGreatDoorMPGG
import Derived.Test.YtmiaplgfbphfmaaGreatDoorMPGF
import Derived.Test.YtmiaplgfbphfmaaGreatDoorMPGK
set_option linter.unusedSimpArgs false
set_option linter.unusedVariables false
namespace Go.Proofs.YtmiaplgfbphfmaaGreatDoor
open Go.RowKit
attribute [local irreducible] wpList

set_option maxRecDepth 100000 in
set_option maxHeartbeats 2000000 in
theorem placeCopy_nil (w : World) (me time seq : Int) (A : Option Addr) (c : Nat) :
    Calls Tryz.prog 65 #[.agg #[.int .i64 me, .slice A 0 c, .int .i64 time, .int .i64 seq]] w fun e w' => ∃ A' c' lo, e = .returned (.agg #[.int .i64 me, .slice A' 0 c', .int .i64 time, .int .i64 seq]) ∧ Fr w w' ∧ AllM w' w.heap.size (.slice A' 0 c') ([] : List Kp) lo := by
  have hlim : 0 * 168 ≤ lim := by unfold lim; omega
  go_enter Tryz.func65, Tryz.ntmps65
  go_wp2_with fail
  (with_reducible refine (cloneKepts_any w.heap.size _ A 0 c [] Sl.nil hlim).mono ?_)
  rintro e w1 ⟨v, rfl, ho, hf1⟩
  obtain ⟨A1, c1, rfl, ⟨hc1, hm1⟩, hs1⟩ := ho.slC (sKp.low _) (by decide)
  have hb1 : w1.heap[w.heap.size]? = some (.cells #[.int .i64 me, .slice A 0 c, .int .i64 time, .int .i64 seq] 25 (0, 0)) := blk_go (by (repeat' (with_reducible (first | (refine heap_new ?_; (first | (simp; done) | rfl); done) | refine heap_dn ?_ | refine heap_d ?_ | refine heap_old ?_)))) hf1
  have hz1 : w1.heap[w.heap.size + 1]? = some (.cells #[.int .i64 0, .slice none 0 0, .int .i64 0, .int .i64 0] 25 (0, 0)) := blk_go (heap_new (by simp)) hf1
  (obtain ⟨bx0, bx1, bx2, bx3⟩ := box4_ hb1)
  (obtain ⟨bz0, bz1, bz2, bz3⟩ := box4_ hz1)
  have q2 := blk_free (i := 1) hb1
  have y0 := blk_free (i := 0) hz1
  have y1 := blk_free (i := 1) hz1
  have y2 := blk_free (i := 2) hz1
  have y3 := blk_free (i := 3) hz1
  have l0 := (Array.getElem?_eq_some_iff.1 hb1).1
  have l1 := (Array.getElem?_eq_some_iff.1 hz1).1
  have HF : Hid (Fr w w1) := Fr.trans (by (repeat' (first | exact Below.refl _ _ | refine below_drewN ?_ _ | refine Below.drew ?_ | refine frA ?_ _))) hf1
  have HO : Hid (Own 16 (eLow w.heap.size eKp) w1 (w.heap.size + 2) 96 (.slice A1 0 c1) ([] : List Kp)) := by
    have := ho
    simp at this
    exact this
  clear ho hs1 hf1 hb1 hz1
  go_wp2_with fail
  go_loop [14] (fun i => i = .int .i64 0) (fun i => 0)
  case atStart => rfl
  case round =>
    subst hrel
    go_wp2_with fail
    refine bodyPost_ret (v := .agg #[.int .i64 me, .slice A1 0 c1, .int .i64 time, .int .i64 seq]) ?_ rfl ⟨A1, c1, rfl, ?_, fun _ => w1.heap.size, ?_⟩
    · simp [results, Tryz.results65, go_sem, bz0, bz1, bz2, bz3, l1]
    · exact ((((HF.out.setCell (by simp) _).setCell (by simp) _).setCell (by simp) _).setCell (by simp) _).setCell (by simp) _
    · have hc : Chg (fun b => b < w.heap.size + 2) w1 (((((w1.setCell ⟨w.heap.size, 1, none⟩ (.slice A1 0 c1)).setCell ⟨w.heap.size + 1, 0, none⟩ (.int .i64 me)).setCell ⟨w.heap.size + 1, 1, none⟩ (.slice A1 0 c1)).setCell ⟨w.heap.size + 1, 2, none⟩ (.int .i64 time)).setCell ⟨w.heap.size + 1, 3, none⟩ (.int .i64 seq)) :=
        Chg.set (p := ⟨w.heap.size + 1, 3, none⟩) (Chg.set (p := ⟨w.heap.size + 1, 2, none⟩) (Chg.set (p := ⟨w.heap.size + 1, 1, none⟩) (Chg.set (p := ⟨w.heap.size + 1, 0, none⟩) (Chg.set (p := ⟨w.heap.size, 1, none⟩) (Chg.refl _ _) (by simp) _) (by simp) _) (by simp) _) (by simp) _) (by simp) _
      have h5 : Own 16 eKp (((((w1.setCell ⟨w.heap.size, 1, none⟩ (.slice A1 0 c1)).setCell ⟨w.heap.size + 1, 0, none⟩ (.int .i64 me)).setCell ⟨w.heap.size + 1, 1, none⟩ (.slice A1 0 c1)).setCell ⟨w.heap.size + 1, 2, none⟩ (.int .i64 time)).setCell ⟨w.heap.size + 1, 3, none⟩ (.int .i64 seq)) w.heap.size 96 (.slice A1 0 c1) ([] : List Kp) := HO.out.nilChg hc (by omega) fun b h1 _ h2 => by omega
      obtain ⟨cs, ho, _⟩ := h5
      refine ⟨⟨cs, ho, fun i x hx => by simp at hx⟩, fun _ _ _ => Nat.le_refl _, by simp only [size_setCell]; exact Nat.le_refl _, HF.out.size, fun b hb => ?_⟩
      have := (ho.lt b hb).2
      simpa only [size_setCell] using this
theorem placeCopy_any (w : World) (me time seq : Int) (A : Option Addr) (n c : Nat) (l : List Kp) (h : Sl 16 eKp w (LT w.heap.size) A n l) (hn12 : n ≤ 12) (hsm : ∀ x ∈ l, x.syms.length ≤ 60 ∧ x.took.length ≤ 40) :
    Calls Tryz.prog 65 #[.agg #[.int .i64 me, .slice A n c, .int .i64 time, .int .i64 seq]] w fun e w' => ∃ A' c' lo, e = .returned (.agg #[.int .i64 me, .slice A' n c', .int .i64 time, .int .i64 seq]) ∧ Fr w w' ∧ AllM w' w.heap.size (.slice A' n c') l lo := by
  rcases Nat.eq_zero_or_pos n with h0 | h0
  · subst h0
    obtain rfl : l = [] := List.eq_nil_of_length_eq_zero h.1
    exact placeCopy_nil w me time seq A c
  · refine (placeCopy_pos w me time seq A n c l h h0 hn12 hsm).mono ?_
    rintro e w' ⟨g, cap, lo, rfl, hf, ha⟩
    exact ⟨_, cap, lo, rfl, hf, ha⟩
end Go.Proofs.YtmiaplgfbphfmaaGreatDoor
namespace Go.Proofs.YtmiaplgfbphfmaaGreatDoor
open Go.RowKit
attribute [local irreducible] wpList

/-- What keep.Next answers: a place in new memory. -/
def NxPost (w : World) (x : Pc × Int) (e : Ending) (w' : World) : Prop :=
  ∃ A n c, e = .returned (.tuple #[.agg #[.int .i64 x.1.me, .slice A n c, .int .i64 x.1.time, .int .i64 x.1.seq], .int .i64 x.2]) ∧ (n ≤ c ∧ c ≤ maxLen) ∧ Sl 16 eKp w' (NW w.heap.size w'.heap.size) A n x.1.keep ∧ Fr w w'
theorem nxPost_err {w w' : World} {x : Pc × Int} {k : Int} (e : x = (Pc.zero, k)) (hf : Fr w w') : NxPost w x (.returned (.tuple #[.agg #[.int .i64 0, .slice none 0 0, .int .i64 0, .int .i64 0], .int .i64 k])) w' := by
  subst e
  exact ⟨none, 0, 0, rfl, ⟨Nat.le_refl _, by unfold maxLen; omega⟩, Sl.nil, hf⟩
set_option maxRecDepth 100000 in
set_option maxHeartbeats 8000000 in
theorem keepNext_any (w : World) (p : Pc) (A : Option Addr) (n c : Nat) (h : Sl 16 eKp w (LT w.heap.size) A n p.keep) (hn : n ≤ maxLen) (r : Rc) (B : Option Addr) (nb cb : Nat) (B2 : Option Addr) (nb2 cb2 : Nat) (hwr : r.wf) (hbd : Byt w (LT w.heap.size) B nb cb r.s.data) (hbc : Byt w (LT w.heap.size) B2 nb2 cb2 r.cargo) :
    Calls Tryz.prog 17 #[.agg #[.int .i64 p.me, .slice A n c, .int .i64 p.time, .int .i64 p.seq], .agg #[.int .i64 r.kind, .int .i64 r.place, .int .i64 r.n, .int .i64 r.try_, .int .i64 r.h.frm, .int .i64 r.h.seq, .int .i64 r.h.to, .int .i64 r.h.till, .int .i64 r.h.bytes, .int .i64 r.h.block, .int .i64 r.s.id, .slice B nb cb, .slice B2 nb2 cb2]] w (NxPost w (nextF p r)) := by
  have E := Lib.hid (nextF.eq_1 p r)
  have hl : p.keep.length = n := h.1
  obtain ⟨pc, hpc⟩ : ∃ pc, pc = placeCheck p := ⟨_, rfl⟩
  obtain ⟨rc, hrc⟩ : ∃ rc, rc = recCheck r := ⟨_, rfl⟩
  obtain ⟨sc, hsc⟩ : ∃ sc, sc = (stepF p r).2 := ⟨_, rfl⟩
  rw [← hpc, ← hrc, ← hsc] at E
  have CK : Hid (∀ W, Fr w W → Calls Tryz.prog 63 #[.agg #[.int .i64 p.me, .slice A n c, .int .i64 p.time, .int .i64 p.seq]] W fun e w' => e = .returned (.int .i64 pc) ∧ Fr W w') := fun W hf => by rw [hpc]; exact keepCheck_any W p A n c (h.go sKp hf) hn
  have RC : Hid (∀ W, Calls Tryz.prog 64 #[.agg #[.int .i64 r.kind, .int .i64 r.place, .int .i64 r.n, .int .i64 r.try_, .int .i64 r.h.frm, .int .i64 r.h.seq, .int .i64 r.h.to, .int .i64 r.h.till, .int .i64 r.h.bytes, .int .i64 r.h.block, .int .i64 r.s.id, .slice B nb cb, .slice B2 nb2 cb2]] W fun e w' => e = .returned (.int .i64 rc) ∧ Fr W w') := fun W => by rw [hrc]; exact noteCheck_any W r B nb cb B2 nb2 cb2 hwr hbd.2.1 hbc.2.1
  have H := Lib.hid h
  have HBD := Lib.hid hbd
  have HBC := Lib.hid hbc
  have HPC := Lib.hid hpc
  have HRC := Lib.hid hrc
  have HSC := Lib.hid hsc
  clear h hbd hbc hpc hrc hsc
  go_enter Tryz.func17, Tryz.ntmps17
  go_upto_region 1 with fail
  obtain ⟨W1, hW1⟩ : ∃ W1, W1 = ((w.alloc (.cells #[.int .i64 p.me, .slice A n c, .int .i64 p.time, .int .i64 p.seq] 25)).alloc (.cells #[.int .i64 r.kind, .int .i64 r.place, .int .i64 r.n, .int .i64 r.try_, .int .i64 r.h.frm, .int .i64 r.h.seq, .int .i64 r.h.to, .int .i64 r.h.till, .int .i64 r.h.bytes, .int .i64 r.h.block, .int .i64 r.s.id, .slice B nb cb, .slice B2 nb2 cb2] 40)).alloc (.cells #[.int .i64 0, .slice none 0 0, .int .i64 0, .int .i64 0] 25) := ⟨_, rfl⟩
  obtain ⟨q, hq⟩ : ∃ q, q = w.heap.size := ⟨_, rfl⟩
  have HP1 : Hid (W1.heap[q]? = some (.cells #[.int .i64 p.me, .slice A n c, .int .i64 p.time, .int .i64 p.seq] 25 (0, 0))) := by rw [hW1]; exact heap_old (heap_old (heap_new hq))
  have HR1 : Hid (W1.heap[q + 1]? = some (.cells #[.int .i64 r.kind, .int .i64 r.place, .int .i64 r.n, .int .i64 r.try_, .int .i64 r.h.frm, .int .i64 r.h.seq, .int .i64 r.h.to, .int .i64 r.h.till, .int .i64 r.h.bytes, .int .i64 r.h.block, .int .i64 r.s.id, .slice B nb cb, .slice B2 nb2 cb2] 40 (0, 0))) := by rw [hW1]; exact heap_old (heap_new (by rw [hq]; simp))
  have HZ1 : Hid (W1.heap[q + 2]? = some (.cells #[.int .i64 0, .slice none 0 0, .int .i64 0, .int .i64 0] 25 (0, 0))) := by rw [hW1]; exact heap_new (by rw [hq]; simp)
  have HF1 : Hid (Fr w W1) := by rw [hW1]; exact ((frAlloc _ _).trans (frAlloc _ _)).trans (frAlloc _ _)
  have hs1 : W1.heap.size = q + 3 := by rw [hW1, hq]; simp
  have HQ : Hid (q = w.heap.size) := hq
  have HS1 := Lib.hid hs1
  obtain ⟨z, hz⟩ : ∃ z, z = w.heap.size + 1 + 1 := ⟨_, rfl⟩
  obtain ⟨y, hy⟩ : ∃ y, y = w.heap.size + 1 := ⟨_, rfl⟩
  have hzq : z = q + 2 := by omega
  have hyq : y = q + 1 := by omega
  rw [← hzq] at HZ1
  rw [← hyq] at HR1
  rw [← hW1, ← hz, ← hy, ← hq]
  have HZQ := Lib.hid hzq
  have HYQ := Lib.hid hyq
  clear hW1 hq hz hy hzq hyq hs1
  have hpx := HP1.out
  have hrx := HR1.out
  (obtain ⟨bp0, bp1, bp2, bp3⟩ := box4_ hpx)
  (obtain ⟨bx0, bx1, bx2, bx3, bx4, bx5, bx6, bx7, bx8, bx9, bx10, bx11, bx12⟩ := box13_ hrx)
  clear hpx hrx
  have ZERO : Hid (∀ W k, Fr w W → nextF p r = (Pc.zero, k) → NxPost w (nextF p r) (.returned (.tuple #[.agg #[.int .i64 0, .slice none 0 0, .int .i64 0, .int .i64 0], .int .i64 k])) ((((W.setCell ⟨z, 0, none⟩ (.int .i64 0)).setCell ⟨z, 1, none⟩ (.slice none 0 0)).setCell ⟨z, 2, none⟩ (.int .i64 0)).setCell ⟨z, 3, none⟩ (.int .i64 0))) := fun W k hf e =>
    nxPost_err e (bel4_ hf (by have := HQ.out; have := HZQ.out; omega))
  go_wp2_with fail
  (with_reducible refine (CK.out _ HF1.out).mono ?_)
  rintro e w2 ⟨rfl, hf2⟩
  have HF2 : Hid (Fr w w2) := HF1.out.trans hf2
  have HP2 := Lib.hid (blk_go HP1.out hf2)
  have HR2 := Lib.hid (blk_go HR1.out hf2)
  have HZ2 := Lib.hid (blk_go HZ1.out hf2)
  have hs2 := hf2.size
  clear hf2 HP1 HR1 HZ1 CK bp0 bp1 bp2 bp3 bx0 bx1 bx2 bx3 bx4 bx5 bx6 bx7 bx8 bx9 bx10 bx11 bx12
  by_cases h1 : pc = 0
  case neg =>
    have E1 := Lib.hid (E.out.trans (if_pos h1))
    have t1 : (pc != 0) = true := by simp [h1]
    have hzx := HZ2.out
    (obtain ⟨bz0, bz1, bz2, bz3⟩ := box4_ hzx)
    have y0 := blk_free (i := 0) hzx
    have y1 := blk_free (i := 1) hzx
    have y2 := blk_free (i := 2) hzx
    have y3 := blk_free (i := 3) hzx
    have lz := (Array.getElem?_eq_some_iff.1 hzx).1
    clear E h1 hzx
    go_wp2_with fail
    refine bodyPost_ret (v := .tuple #[.agg #[.int .i64 0, .slice none 0 0, .int .i64 0, .int .i64 0], .int .i64 pc]) ?_ rfl (ZERO.out _ _ HF2.out E1.out)
    simp [results, Tryz.results17, go_sem, bz0, bz1, bz2, bz3, lz]
  case pos =>
  have E1 := Lib.hid (E.out.trans (if_neg (fun e => e h1)))
  have t1 : (pc != 0) = false := by simp [h1]
  have hok : PcOk p := placeCheck_iff.1 (HPC.out.symm.trans h1)
  have hrx := HR2.out
  (obtain ⟨bx0, bx1, bx2, bx3, bx4, bx5, bx6, bx7, bx8, bx9, bx10, bx11, bx12⟩ := box13_ hrx)
  clear hrx E h1
  go_wp2_with fail
  (with_reducible refine (RC.out _).mono ?_)
  rintro e w3 ⟨rfl, hf3⟩
  have HF3 : Hid (Fr w w3) := HF2.out.trans hf3
  have HP3 := Lib.hid (blk_go HP2.out hf3)
  have HR3 := Lib.hid (blk_go HR2.out hf3)
  have HZ3 := Lib.hid (blk_go HZ2.out hf3)
  have hs3 := hf3.size
  clear hf3 HP2 HR2 HZ2 RC t1 bx0 bx1 bx2 bx3 bx4 bx5 bx6 bx7 bx8 bx9 bx10 bx11 bx12
  by_cases h1 : rc = 0
  case neg =>
    have E2 := Lib.hid (E1.out.trans (if_pos h1))
    have t1 : (rc != 0) = true := by simp [h1]
    have hzx := HZ3.out
    (obtain ⟨bz0, bz1, bz2, bz3⟩ := box4_ hzx)
    have y0 := blk_free (i := 0) hzx
    have y1 := blk_free (i := 1) hzx
    have y2 := blk_free (i := 2) hzx
    have y3 := blk_free (i := 3) hzx
    have lz := (Array.getElem?_eq_some_iff.1 hzx).1
    clear E1 h1 hzx
    go_wp2_with fail
    refine bodyPost_ret (v := .tuple #[.agg #[.int .i64 0, .slice none 0 0, .int .i64 0, .int .i64 0], .int .i64 rc]) ?_ rfl (ZERO.out _ _ HF3.out E2.out)
    simp [results, Tryz.results17, go_sem, bz0, bz1, bz2, bz3, lz]
  case pos =>
  have E2 := Lib.hid (E1.out.trans (if_neg (fun e => e h1)))
  have t1 : (rc != 0) = false := by simp [h1]
  have hro : RcOk r := recCheck_ok (HRC.out.symm.trans h1)
  have hpx := HP3.out
  (obtain ⟨bp0, bp1, bp2, bp3⟩ := box4_ hpx)
  have y0 := blk_free (i := 0) hpx
  have y1 := blk_free (i := 1) hpx
  have y2 := blk_free (i := 2) hpx
  have y3 := blk_free (i := 3) hpx
  clear hpx E1 h1 y0 y1 y2 y3
  go_wp2_with fail
  with_reducible refine (placeCopy_any w3 p.me p.time p.seq A n c p.keep (H.out.go sKp HF3.out) (by rw [← hl]; exact hok.len) (fun x hx => (keptCheck_iff.1 (hok.kept x hx)).many)).mono ?_
  rintro e w4 ⟨A4, c4, lo, rfl, hf4, hall⟩
  have hp4 := blk_go HP3.out hf4
  have HR4 := blk_go HR3.out hf4
  have HZ4 := blk_go HZ3.out hf4
  have hs4 := hf4.size
  have HF4 : Hid (Fr w w4) := HF3.out.trans hf4
  have hq3 : q < w3.heap.size := by have := HS1.out; omega
  have hz3 : z < w3.heap.size := by have := HS1.out; have := HZQ.out; omega
  obtain ⟨W5, hW5⟩ : ∃ W5, W5 = (((w4.setCell ⟨q, 0, none⟩ (.int .i64 p.me)).setCell ⟨q, 1, none⟩ (.slice A4 n c4)).setCell ⟨q, 2, none⟩ (.int .i64 p.time)).setCell ⟨q, 3, none⟩ (.int .i64 p.seq) := ⟨_, rfl⟩
  have hC5 : Chg (fun b => b = q) w4 W5 := by rw [hW5]; exact Chg.of (grw4_ ⟨rfl, rfl, rfl, Nat.le_refl _, fun _ _ _ => rfl⟩)
  have HP5 : Hid (W5.heap[q]? = some (.cells #[.int .i64 p.me, .slice A4 n c4, .int .i64 p.time, .int .i64 p.seq] 25 (0, 0))) := by rw [hW5]; exact stor4_ hp4
  have HR5 := Lib.hid (hC5.blk HR4 (by have := HYQ.out; omega))
  have HZ5 := Lib.hid (hC5.blk HZ4 (by have := HZQ.out; omega))
  have HF5 : Hid (Fr w W5) := by rw [hW5]; exact bel4_ HF4.out (by have := HQ.out; omega)
  have HPA : Hid (PlA W5 w3.heap.size q p A4 c4 lo) := ⟨by rw [hl]; exact HP5.out, hq3, by rw [hl]; exact hall.chg hC5 fun b h1 h2 e => by omega⟩
  have hs5 : w4.heap.size ≤ W5.heap.size := hC5.size
  have hW5' := Lib.hid hW5
  (obtain ⟨bp0, bp1, bp2, bp3⟩ := box4_ hp4)
  have y0 := blk_free (i := 0) hp4
  have y1 := blk_free (i := 1) hp4
  have y2 := blk_free (i := 2) hp4
  have y3 := blk_free (i := 3) hp4
  have lq := (Array.getElem?_eq_some_iff.1 hp4).1
  have hrx : ∀ i, w4.frozen? ⟨q, i, none⟩ = false := fun i => blk_free (i := i) hp4
  clear hp4 HR4 HZ4 hf4 hall hC5 hW5 HP3 HR3 HZ3 t1
  go_upto_region 8 with fail
  rw [← hW5'.out]
  clear hW5' bp0 bp1 bp2 bp3 y0 y1 y2 y3 lq hrx
  have hrx := HR5.out
  (obtain ⟨bx0, bx1, bx2, bx3, bx4, bx5, bx6, bx7, bx8, bx9, bx10, bx11, bx12⟩ := box13_ hrx)
  clear hrx
  have hSB : ∀ (a : Addr), a.block < w.heap.size → W5.cell? a = w.cell? a := fun a ha => HF5.out.cell ha
  have NX := Lib.hid (nextRec_any W5 w3.heap.size q p A4 c4 lo HPA.out hok r hro B nb cb B2 nb2 cb2 hwr (fun b => b < w.heap.size) ⟨HBD.out.1, HBD.out.2.keep sByte fun a ha => hSB a ha⟩ ⟨HBC.out.1, HBC.out.2.keep sByte fun a ha => hSB a ha⟩ (fun b hb => by rw [HQ.out]; exact hb) (by omega))
  clear hSB
  go_wp2_with fail
  (with_reducible refine (NX.out).mono ?_)
  rintro e w6 ⟨rfl, hC6, hp6⟩
  rw [← HSC.out] at hp6 ⊢
  have hzS : ¬ PlS w3.heap.size q z := fun h => by have := HZQ.out; rcases h with h | h <;> omega
  have HZ6 := Lib.hid (hC6.blk HZ5.out hzS)
  have HF6 : Hid (Fr w w6) := hC6.fr HF5.out fun b hb => by have := HQ.out; have := HF3.out.size; rcases hb with hb | hb <;> omega
  have hp6' := Lib.hid hp6
  clear hC6 hp6 NX bx0 bx1 bx2 bx3 bx4 bx5 bx6 bx7 bx8 bx9 bx10 bx11 bx12
  have hzx := HZ6.out
  (obtain ⟨bz0, bz1, bz2, bz3⟩ := box4_ hzx)
  have y0 := blk_free (i := 0) hzx
  have y1 := blk_free (i := 1) hzx
  have y2 := blk_free (i := 2) hzx
  have y3 := blk_free (i := 3) hzx
  have lz := (Array.getElem?_eq_some_iff.1 hzx).1
  clear hzx
  by_cases h1 : sc = 0
  case neg =>
    have E3 := Lib.hid (E2.out.trans (if_pos h1))
    have t1 : (sc != 0) = true := by simp [h1]
    clear E2 h1
    go_wp2_with fail
    refine bodyPost_ret (v := .tuple #[.agg #[.int .i64 0, .slice none 0 0, .int .i64 0, .int .i64 0], .int .i64 sc]) ?_ rfl (ZERO.out _ _ HF6.out E3.out)
    simp [results, Tryz.results17, go_sem, bz0, bz1, bz2, bz3, lz]
  case pos =>
    have E3 := Lib.hid (E2.out.trans (if_neg (fun e => e h1)))
    have t1 : (sc != 0) = false := by simp [h1]
    obtain ⟨A7, c7, hpl7⟩ := hp6'.out h1
    obtain ⟨P, hP⟩ : ∃ P, P = (stepF p r).1 := ⟨_, rfl⟩
    rw [← hP] at hpl7 E3
    obtain ⟨A9, c9, e9, hb9, hsl⟩ := hpl7.own.toNw sKp
    injection e9 with e9 _ e10
    subst e9 e10
    have hpx := hpl7.blk
    (obtain ⟨bp0, bp1, bp2, bp3⟩ := box4_ hpx)
    obtain ⟨n7, hn7⟩ : ∃ n7, n7 = P.keep.length := ⟨_, rfl⟩
    rw [← hn7] at bp1 hsl hb9
    have HSL := Lib.hid (Sl.stored sKp (Sl.stored sKp (Sl.stored sKp (Sl.stored sKp hsl (p := ⟨z, 0, none⟩) hz3 (.int .i64 P.me)) (p := ⟨z, 1, none⟩) hz3 (.slice A7 n7 c7)) (p := ⟨z, 2, none⟩) hz3 (.int .i64 P.time)) (p := ⟨z, 3, none⟩) hz3 (.int .i64 P.seq))
    have HB9 := Lib.hid hb9
    have hz6 : ((((w6.setCell ⟨z, 0, none⟩ (.int .i64 P.me)).setCell ⟨z, 1, none⟩ (.slice A7 n7 c7)).setCell ⟨z, 2, none⟩ (.int .i64 P.time)).setCell ⟨z, 3, none⟩ (.int .i64 P.seq)).heap.size = w6.heap.size := by simp only [size_setCell]
    clear E2 h1 hpl7 hsl hb9 hpx hP hn7 hp6'
    go_wp2_with fail
    refine bodyPost_ret (v := .tuple #[.agg #[.int .i64 P.me, .slice A7 n7 c7, .int .i64 P.time, .int .i64 P.seq], .int .i64 0]) ?_ rfl ?_
    · simp [results, Tryz.results17, go_sem, bz0, bz1, bz2, bz3, lz]
    · rw [E3.out]
      refine ⟨A7, n7, c7, rfl, HB9.out, ?_, bel4_ HF6.out (by have := HQ.out; have := HZQ.out; omega)⟩
      rw [hz6]
      exact HSL.out.more sKp fun b hb => ⟨by have := hb.1; have := HF3.out.size; omega, hb.2⟩
end Go.Proofs.YtmiaplgfbphfmaaGreatDoor
namespace Go.Proofs.YtmiaplgfbphfmaaGreatDoor
open Go.RowKit
attribute [local irreducible] wpList

set_option maxRecDepth 100000 in
set_option maxHeartbeats 8000000 in
theorem keepNew_any (w : World) (me : Int) : Calls Tryz.prog 61 #[.int .i64 me] w (NxPost w (newF me)) := by
  have E := Lib.hid (newF.eq_1 me)
  obtain ⟨pc, hpc⟩ : ∃ pc, pc = placeCheck ⟨me, [], 0, 0⟩ := ⟨_, rfl⟩
  rw [← hpc] at E
  have CK : Hid (∀ W, Calls Tryz.prog 63 #[.agg #[.int .i64 me, .slice none 0 0, .int .i64 0, .int .i64 0]] W fun e w' => e = .returned (.int .i64 pc) ∧ Fr W w') := fun W => by rw [hpc]; exact keepCheck_any W ⟨me, [], 0, 0⟩ none 0 0 Sl.nil (by unfold maxLen; omega)
  clear hpc
  go_enter Tryz.func61, Tryz.ntmps61
  go_upto_region 2 with fail
  obtain ⟨W1, hW1⟩ : ∃ W1, W1 = (w.alloc (.cells #[.int .i64 0, .slice none 0 0, .int .i64 0, .int .i64 0] 25)).alloc (.cells #[.int .i64 me, .slice none 0 0, .int .i64 0, .int .i64 0] 25) := ⟨_, rfl⟩
  obtain ⟨q, hq⟩ : ∃ q, q = w.heap.size := ⟨_, rfl⟩
  obtain ⟨y, hy⟩ : ∃ y, y = w.heap.size + 1 := ⟨_, rfl⟩
  have HZ1 : Hid (W1.heap[q]? = some (.cells #[.int .i64 0, .slice none 0 0, .int .i64 0, .int .i64 0] 25 (0, 0))) := by rw [hW1]; exact heap_old (heap_new hq)
  have HP1 : Hid (W1.heap[y]? = some (.cells #[.int .i64 me, .slice none 0 0, .int .i64 0, .int .i64 0] 25 (0, 0))) := by rw [hW1]; exact heap_new (by rw [hy]; simp)
  have HF1 : Hid (Fr w W1) := by rw [hW1]; exact (frAlloc _ _).trans (frAlloc _ _)
  rw [← hW1, ← hy, ← hq]
  have HQ : Hid (q = w.heap.size) := hq
  clear hW1 hq hy
  have hpx := HP1.out
  (obtain ⟨bp0, bp1, bp2, bp3⟩ := box4_ hpx)
  clear hpx
  go_wp2_with fail
  (with_reducible refine (CK.out _).mono ?_)
  rintro e w2 ⟨rfl, hf2⟩
  have HF2 : Hid (Fr w w2) := HF1.out.trans hf2
  have hpx := blk_go HP1.out hf2
  have hzx := blk_go HZ1.out hf2
  clear hf2 HP1 HZ1 CK bp0 bp1 bp2 bp3
  (obtain ⟨bp0, bp1, bp2, bp3⟩ := box4_ hpx)
  (obtain ⟨bz0, bz1, bz2, bz3⟩ := box4_ hzx)
  have y0 := blk_free (i := 0) hzx
  have y1 := blk_free (i := 1) hzx
  have y2 := blk_free (i := 2) hzx
  have y3 := blk_free (i := 3) hzx
  have lz := (Array.getElem?_eq_some_iff.1 hzx).1
  clear hpx hzx
  by_cases h1 : pc = 0
  case neg =>
    have E1 := Lib.hid (E.out.trans (if_pos h1))
    have t1 : (pc != 0) = true := by simp [h1]
    clear E h1
    go_wp2_with fail
    refine bodyPost_ret (v := .tuple #[.agg #[.int .i64 0, .slice none 0 0, .int .i64 0, .int .i64 0], .int .i64 pc]) ?_ rfl (nxPost_err E1.out (bel4_ HF2.out (by have := HQ.out; omega)))
    simp [results, Tryz.results61, go_sem, bz0, bz1, bz2, bz3, lz]
  case pos =>
    have E1 := Lib.hid (E.out.trans (if_neg (fun e => e h1)))
    have t1 : (pc != 0) = false := by simp [h1]
    clear E h1
    go_wp2_with fail
    refine bodyPost_ret (v := .tuple #[.agg #[.int .i64 me, .slice none 0 0, .int .i64 0, .int .i64 0], .int .i64 0]) ?_ rfl ?_
    · simp [results, Tryz.results61, go_sem, bz0, bz1, bz2, bz3, lz]
    · rw [E1.out]
      exact ⟨none, 0, 0, rfl, ⟨Nat.le_refl _, by unfold maxLen; omega⟩, Sl.nil, bel4_ HF2.out (by have := HQ.out; omega)⟩
theorem replayL_step {p : Pc} {l : List Rc} {k : Nat} {r : Rc} (h : l[k]? = some r) : replayL p (l.drop k) = if (nextF p r).2 ≠ 0 then (Pc.zero, (nextF p r).2) else replayL (nextF p r).1 (l.drop (k + 1)) := by
  rw [drop_cons h, replayL]
theorem eRc_atK {w : World} {S : Nat → Prop} {q : Addr} {x : Rc} (h : eRc w S (fun j => w.cell? (q.add j)) x) : ∃ A n c A2 n2 c2, (w.cell? q = some (.int .i64 x.kind) ∧ w.cell? ⟨q.block, q.off + 1, none⟩ = some (.int .i64 x.place) ∧ w.cell? ⟨q.block, q.off + 2, none⟩ = some (.int .i64 x.n) ∧ w.cell? ⟨q.block, q.off + 3, none⟩ = some (.int .i64 x.try_) ∧ w.cell? ⟨q.block, q.off + 4, none⟩ = some (.int .i64 x.h.frm) ∧ w.cell? ⟨q.block, q.off + 5, none⟩ = some (.int .i64 x.h.seq) ∧ w.cell? ⟨q.block, q.off + 6, none⟩ = some (.int .i64 x.h.to) ∧ w.cell? ⟨q.block, q.off + 7, none⟩ = some (.int .i64 x.h.till) ∧ w.cell? ⟨q.block, q.off + 8, none⟩ = some (.int .i64 x.h.bytes) ∧ w.cell? ⟨q.block, q.off + 9, none⟩ = some (.int .i64 x.h.block) ∧ w.cell? ⟨q.block, q.off + 10, none⟩ = some (.int .i64 x.s.id) ∧ w.cell? ⟨q.block, q.off + 11, none⟩ = some (.slice A n c) ∧ w.cell? ⟨q.block, q.off + 12, none⟩ = some (.slice A2 n2 c2)) ∧ x.wf ∧ Byt w S A n c x.s.data ∧ Byt w S A2 n2 c2 x.cargo := eRc_iff.1 h
set_option maxRecDepth 100000 in
set_option maxHeartbeats 8000000 in
theorem keepReplay_any (w : World) (me : Int) (A : Option Addr) (n c : Nat) (l : List Rc) (h : Sl 13 eRc w (LT w.heap.size) A n l) (hn : n ≤ maxLen) : Calls Tryz.prog 14 #[.int .i64 me, .slice A n c] w (NxPost w (replayF me l)) := by
  have E := Lib.hid (replayF.eq_1 me l)
  have hl := h.1
  unfold maxLen at hn
  rw [hl] at E
  obtain ⟨N, hN⟩ : ∃ N, N = newF me := ⟨_, rfl⟩
  rw [← hN] at E
  have NW_ : Hid (∀ W, Calls Tryz.prog 61 #[.int .i64 me] W (NxPost W N)) := fun W => by rw [hN]; exact keepNew_any W me
  have H := Lib.hid h
  have HL := Lib.hid hl
  clear h hN hl
  go_enter Tryz.func14, Tryz.ntmps14
  go_wp2_with fail
  (with_reducible refine (NW_.out _).mono ?_)
  rintro e w1 ⟨A1, n1, c1, rfl, hb1, hs1, hf1⟩
  have HF1 : Hid (Fr w w1) := (frAlloc _ _).trans hf1
  have HZ1 : Hid (w1.heap[w.heap.size]? = some (.cells #[.int .i64 0, .slice none 0 0, .int .i64 0, .int .i64 0] 25 (0, 0))) := blk_go (heap_new rfl) hf1
  have hw1 := HF1.out.size
  have hs1' : Sl 16 eKp w1 (NW (w.heap.size + 1) w1.heap.size) A1 n1 N.1.keep := hs1.more sKp fun b hb => ⟨by have := hb.1; simp at this; exact this, hb.2⟩
  have HB1 := Lib.hid hb1
  have HS1 := Lib.hid hs1'
  obtain ⟨ne, hne⟩ : ∃ ne, ne = N.2 := ⟨_, rfl⟩
  rw [← hne] at E ⊢
  clear hf1 hb1 hs1 hs1' hne NW_
  go_upto_region 2 with fail
  obtain ⟨W2, hW2⟩ : ∃ W2, W2 = w1.alloc (.cells #[.int .i64 N.1.me, .slice A1 n1 c1, .int .i64 N.1.time, .int .i64 N.1.seq] 25) := ⟨_, rfl⟩
  obtain ⟨q, hq⟩ : ∃ q, q = w1.heap.size := ⟨_, rfl⟩
  obtain ⟨z, hz⟩ : ∃ z, z = w.heap.size := ⟨_, rfl⟩
  have HP2 : Hid (W2.heap[q]? = some (.cells #[.int .i64 N.1.me, .slice A1 n1 c1, .int .i64 N.1.time, .int .i64 N.1.seq] 25 (0, 0))) := by rw [hW2]; exact heap_new hq
  have hf2 : Fr w1 W2 := by rw [hW2]; exact frAlloc _ _
  have HZ2 : Hid (W2.heap[z]? = some (.cells #[.int .i64 0, .slice none 0 0, .int .i64 0, .int .i64 0] 25 (0, 0))) := by rw [hz]; exact blk_go HZ1.out hf2
  have HF2 : Hid (Fr w W2) := HF1.out.trans hf2
  have HS2 : Hid (Sl 16 eKp W2 (fun b => z < b ∧ b < W2.heap.size ∧ b ≠ q) A1 n1 N.1.keep) := (HS1.out.keep sKp fun a ha => hf2.cell ha.2).more sKp fun b hb => ⟨by have := hb.1; omega, Nat.lt_of_lt_of_le hb.2 hf2.size, by have := hb.2; omega⟩
  rw [← hW2, ← hq, ← hz]
  have hzq : z < q := by have := (Array.getElem?_eq_some_iff.1 HZ1.out).1; omega
  have HZW : Hid (z = w.heap.size) := hz
  clear hW2 hq hz hf2 HZ1 HS1 HF1 hw1
  have ZERO : Hid (∀ W k, Fr w W → replayF me l = (Pc.zero, k) → NxPost w (replayF me l) (.returned (.tuple #[.agg #[.int .i64 0, .slice none 0 0, .int .i64 0, .int .i64 0], .int .i64 k])) ((((W.setCell ⟨z, 0, none⟩ (.int .i64 0)).setCell ⟨z, 1, none⟩ (.slice none 0 0)).setCell ⟨z, 2, none⟩ (.int .i64 0)).setCell ⟨z, 3, none⟩ (.int .i64 0))) := fun W k hf e =>
    nxPost_err e (bel4_ hf (by have := HZW.out; omega))
  have hzx := HZ2.out
  (obtain ⟨bz0, bz1, bz2, bz3⟩ := box4_ hzx)
  have y0 := blk_free (i := 0) hzx
  have y1 := blk_free (i := 1) hzx
  have y2 := blk_free (i := 2) hzx
  have y3 := blk_free (i := 3) hzx
  have lz := (Array.getElem?_eq_some_iff.1 hzx).1
  clear hzx
  by_cases h1 : ne = 0
  case neg =>
    have E1 := Lib.hid (E.out.trans (if_pos h1))
    have t1 : (ne != 0) = true := by simp [h1]
    clear E h1
    go_wp2_with fail
    refine bodyPost_ret (v := .tuple #[.agg #[.int .i64 0, .slice none 0 0, .int .i64 0, .int .i64 0], .int .i64 ne]) ?_ rfl (ZERO.out _ _ HF2.out E1.out)
    simp [results, Tryz.results14, go_sem, bz0, bz1, bz2, bz3, lz]
  case pos =>
  have E1 := Lib.hid (E.out.trans (if_neg (fun e => e h1)))
  have t1 : (ne != 0) = false := by simp [h1]
  clear E h1
  by_cases h2 : 200 < n
  case pos =>
    have E2 := Lib.hid (E1.out.trans (if_pos h2))
    have t2 : decide ((200 : Int) < (n : Int)) = true := by simp; omega
    clear E1
    go_wp2_with fail
    refine bodyPost_ret (v := .tuple #[.agg #[.int .i64 0, .slice none 0 0, .int .i64 0, .int .i64 0], .int .i64 2]) ?_ rfl (ZERO.out _ _ HF2.out E2.out)
    simp [results, Tryz.results14, go_sem, bz0, bz1, bz2, bz3, lz]
  case neg =>
  have E2 := Lib.hid (E1.out.trans (if_neg h2))
  have t2 : decide ((200 : Int) < (n : Int)) = false := by simp; omega
  clear E1 bz0 bz1 bz2 bz3 y0 y1 y2 y3 lz
  have H0 : Hid (replayL N.1 l = replayL N.1 (l.drop 0)) := by rw [List.drop_zero]; exact rfl
  go_wp2_with fail
  go_loopw [25] (fun s25 wr => ∃ (k : Nat) (p : Pc) (A' : Option Addr) (n' c' : Nat), k ≤ n ∧ s25 = .int .i64 k ∧ Hid (replayL N.1 l = replayL p (l.drop k)) ∧ Hid (wr.heap[q]? = some (.cells #[.int .i64 p.me, .slice A' n' c', .int .i64 p.time, .int .i64 p.seq] 25 (0, 0))) ∧ Hid (n' ≤ c' ∧ c' ≤ maxLen) ∧ Hid (Sl 16 eKp wr (fun b => z < b ∧ b < wr.heap.size ∧ b ≠ q) A' n' p.keep) ∧ Hid (Chg (fun b => b = q) W2 wr)) (fun i _ => n - (intOf i).toNat)
  case atStart => exact ⟨0, N.1, A1, n1, c1, Nat.zero_le _, rfl, H0, HP2, HB1, HS2, Chg.refl _ _⟩
  case round =>
    obtain ⟨k, p, A', n', c', hk, rfl, HR, HP, HB, HS, HC⟩ := hrel
    have hqs : q < wr.heap.size := (Array.getElem?_eq_some_iff.1 HP.out).1
    have hlq : w.heap.size ≤ q := by have := HZW.out; omega
    have HFr : Hid (Fr w wr) := HC.out.fr HF2.out fun b hb => by rw [hb]; exact hlq
    by_cases hlt : k < n
    · have hrd : Sl 13 eRc wr (LT wr.heap.size) A n l := H.out.go sRc HFr.out
      obtain ⟨ad, hAd, hE⟩ := hrd.els (by omega)
      subst hAd
      obtain ⟨r, hr, hrr⟩ := hE.row hlt
      obtain ⟨B, nb, cb, B2, nb2, cb2, ⟨m0, m1, m2, m3, m4, m5, m6, m7, m8, m9, m10, m11, m12⟩, hwr, hbd, hbc⟩ := eRc_atK hrr
      have HRS := Lib.hid (HR.out.trans (replayL_step hr))
      obtain ⟨X, hX⟩ : ∃ X, X = nextF p r := ⟨_, rfl⟩
      rw [← hX] at HRS
      have NX : Hid (∀ W, Fr wr W → Calls Tryz.prog 17 #[.agg #[.int .i64 p.me, .slice A' n' c', .int .i64 p.time, .int .i64 p.seq], .agg #[.int .i64 r.kind, .int .i64 r.place, .int .i64 r.n, .int .i64 r.try_, .int .i64 r.h.frm, .int .i64 r.h.seq, .int .i64 r.h.to, .int .i64 r.h.till, .int .i64 r.h.bytes, .int .i64 r.h.block, .int .i64 r.s.id, .slice B nb cb, .slice B2 nb2 cb2]] W (NxPost W X)) := fun W hf => by
        rw [hX]
        exact keepNext_any W p A' n' c' ((HS.out.more sKp fun b hb => hb.2.1).go sKp hf) (Nat.le_trans HB.out.1 HB.out.2) r B nb cb B2 nb2 cb2 hwr (hbd.go hf) (hbc.go hf)
      clear hX hwr hbd hbc hrr hE hr hrd
      go_upto_region 9 with fail
      obtain ⟨W5, hW5⟩ : ∃ W5, W5 = wr.alloc (.cells #[.int .i64 r.kind, .int .i64 r.place, .int .i64 r.n, .int .i64 r.try_, .int .i64 r.h.frm, .int .i64 r.h.seq, .int .i64 r.h.to, .int .i64 r.h.till, .int .i64 r.h.bytes, .int .i64 r.h.block, .int .i64 r.s.id, .slice B nb cb, .slice B2 nb2 cb2] 40) := ⟨_, rfl⟩
      obtain ⟨q5, hq5⟩ : ∃ q5, q5 = wr.heap.size := ⟨_, rfl⟩
      have hQ5 : W5.heap[q5]? = some (.cells #[.int .i64 r.kind, .int .i64 r.place, .int .i64 r.n, .int .i64 r.try_, .int .i64 r.h.frm, .int .i64 r.h.seq, .int .i64 r.h.to, .int .i64 r.h.till, .int .i64 r.h.bytes, .int .i64 r.h.block, .int .i64 r.s.id, .slice B nb cb, .slice B2 nb2 cb2] 40 (0, 0)) := by rw [hW5]; exact heap_new hq5
      have hF5 : Fr wr W5 := by rw [hW5]; exact frAlloc _ _
      have HF5 := Lib.hid hF5
      have hP5 := blk_go HP.out hF5
      rw [← hW5, ← hq5]
      clear hW5 hq5 hF5 m0 m1 m2 m3 m4 m5 m6 m7 m8 m9 m10 m11 m12
      (obtain ⟨bx0, bx1, bx2, bx3, bx4, bx5, bx6, bx7, bx8, bx9, bx10, bx11, bx12⟩ := box13_ hQ5)
      (obtain ⟨bp0, bp1, bp2, bp3⟩ := box4_ hP5)
      have HP5 := Lib.hid hP5
      clear hQ5 hP5
      go_wp2_with fail
      (with_reducible refine (NX.out _ HF5.out).mono ?_)
      rintro e w6 ⟨A9, n9, c9, rfl, hb9, hs9, hf9⟩
      have hp6 := blk_go HP5.out hf9
      have hz6 := blk_go (HC.out.blk HZ2.out (by omega)) (HF5.out.trans hf9)
      obtain ⟨xe, hxe⟩ : ∃ xe, xe = X.2 := ⟨_, rfl⟩
      rw [← hxe] at HRS ⊢
      obtain ⟨W7, hW7⟩ : ∃ W7, W7 = (((w6.setCell ⟨q, 0, none⟩ (.int .i64 X.1.me)).setCell ⟨q, 1, none⟩ (.slice A9 n9 c9)).setCell ⟨q, 2, none⟩ (.int .i64 X.1.time)).setCell ⟨q, 3, none⟩ (.int .i64 X.1.seq) := ⟨_, rfl⟩
      have hC7 : Chg (fun b => b = q) w6 W7 := by rw [hW7]; exact Chg.of (grw4_ ⟨rfl, rfl, rfl, Nat.le_refl _, fun _ _ _ => rfl⟩)
      have HP7 : Hid (W7.heap[q]? = some (.cells #[.int .i64 X.1.me, .slice A9 n9 c9, .int .i64 X.1.time, .int .i64 X.1.seq] 25 (0, 0))) := by rw [hW7]; exact stor4_ hp6
      have HZ7 := Lib.hid (hC7.blk hz6 (by omega))
      have HC7 : Hid (Chg (fun b => b = q) W2 W7) := (HC.out.trans (HF5.out.trans hf9).chg).trans hC7
      have hs5 := HF5.out.size
      have HS7 : Hid (Sl 16 eKp W7 (fun b => z < b ∧ b < W7.heap.size ∧ b ≠ q) A9 n9 X.1.keep) := (hs9.keep sKp fun a ha => hC7.cell ha.2 (by have := ha.1; omega)).more sKp fun b hb => ⟨by have := hb.1; omega, Nat.lt_of_lt_of_le hb.2 hC7.size, by have := hb.1; omega⟩
      have HF7 : Hid (Fr w W7) := HC7.out.fr HF2.out fun b hb => by rw [hb]; exact hlq
      have HB9 := Lib.hid hb9
      have HW7 := Lib.hid hW7
      clear bx0 bx1 bx2 bx3 bx4 bx5 bx6 bx7 bx8 bx9 bx10 bx11 bx12 bp0 bp1 bp2 bp3
      (obtain ⟨bp0, bp1, bp2, bp3⟩ := box4_ hp6)
      have y0 := blk_free (i := 0) hp6
      have y1 := blk_free (i := 1) hp6
      have y2 := blk_free (i := 2) hp6
      have y3 := blk_free (i := 3) hp6
      have lq := (Array.getElem?_eq_some_iff.1 hp6).1
      clear hp6 hz6 hxe hs9 hf9 hb9 hC7 hW7 NX
      go_upto_region 10 with fail
      rw [← HW7.out]
      clear HW7 bp0 bp1 bp2 bp3 y0 y1 y2 y3 lq
      by_cases h3 : xe = 0
      · have t3 : (xe != 0) = false := by simp [h3]
        have HR7 : Hid (replayL N.1 l = replayL X.1 (l.drop (k + 1))) := HRS.out.trans (if_neg (fun e => e h3))
        clear h3
        go_wp2_with fail
        go_roundw
        case rel => exact ⟨k + 1, X.1, A9, n9, c9, by omega, by go_num, HR7, HP7, HB9, HS7, HC7⟩
        case measure => simp [intOf]; omega
      · have t3 : (xe != 0) = true := by simp [h3]
        have E3 : Hid (replayF me l = (Pc.zero, xe)) := E2.out.trans (HRS.out.trans (if_pos h3))
        have hzx := HZ7.out
        (obtain ⟨bz0, bz1, bz2, bz3⟩ := box4_ hzx)
        have y0 := blk_free (i := 0) hzx
        have y1 := blk_free (i := 1) hzx
        have y2 := blk_free (i := 2) hzx
        have y3 := blk_free (i := 3) hzx
        have lz := (Array.getElem?_eq_some_iff.1 hzx).1
        clear h3 hzx
        go_wp2_with fail
        refine bodyPost_ret (v := .tuple #[.agg #[.int .i64 0, .slice none 0 0, .int .i64 0, .int .i64 0], .int .i64 xe]) ?_ rfl (ZERO.out _ _ HF7.out E3.out)
        simp [results, Tryz.results14, go_sem, bz0, bz1, bz2, bz3, lz]
    · have E3 : Hid (replayF me l = (p, 0)) := by
        rw [Hid, E2.out, HR.out, List.drop_eq_nil_of_le (by have := HL.out; omega)]; rfl
      have hpx := HP.out
      (obtain ⟨bp0, bp1, bp2, bp3⟩ := box4_ hpx)
      have hzx := HC.out.blk HZ2.out (by omega)
      (obtain ⟨bz0, bz1, bz2, bz3⟩ := box4_ hzx)
      have y0 := blk_free (i := 0) hzx
      have y1 := blk_free (i := 1) hzx
      have y2 := blk_free (i := 2) hzx
      have y3 := blk_free (i := 3) hzx
      have lz := (Array.getElem?_eq_some_iff.1 hzx).1
      have hk4 : Chg (fun b => b = z) wr ((((wr.setCell ⟨z, 0, none⟩ (.int .i64 p.me)).setCell ⟨z, 1, none⟩ (.slice A' n' c')).setCell ⟨z, 2, none⟩ (.int .i64 p.time)).setCell ⟨z, 3, none⟩ (.int .i64 p.seq)) := Chg.of (grw4_ ⟨rfl, rfl, rfl, Nat.le_refl _, fun _ _ _ => rfl⟩)
      have HSZ := Lib.hid (HS.out.keep sKp fun a ha => hk4.cell ha.2.1 (by have := ha.1; omega))
      have hks := hk4.size
      clear hpx hzx hk4
      go_wp2_with fail
      refine bodyPost_ret (v := .tuple #[.agg #[.int .i64 p.me, .slice A' n' c', .int .i64 p.time, .int .i64 p.seq], .int .i64 0]) ?_ rfl ?_
      · simp [results, Tryz.results14, go_sem, bz0, bz1, bz2, bz3, lz]
      · rw [E3.out]
        exact ⟨A', n', c', rfl, HB.out, HSZ.out.more sKp fun b hb => ⟨by have := hb.1; have := HZW.out; omega, Nat.lt_of_lt_of_le hb.2.1 hks⟩, bel4_ HFr.out (by have := HZW.out; omega)⟩
end Go.Proofs.YtmiaplgfbphfmaaGreatDoor
namespace Go.Proofs.YtmiaplgfbphfmaaGreatDoor
open Go.RowKit
attribute [local irreducible] wpList

def kh0 : Hd := ⟨1, 0, 2, 50, 2, 1⟩
def kr1 : Rc := ⟨2, 0, 0, 0, kh0, ⟨0, [7]⟩, []⟩
def kr2 : Rc := ⟨2, 0, 0, 0, kh0, ⟨1, [8]⟩, []⟩
def kr3 : Rc := ⟨6, 1, 4, 1, kh0, ⟨0, []⟩, []⟩
def kd1 : Rc := ⟨3, 0, 0, 0, kh0, ⟨0, []⟩, [7, 8]⟩
def kd2 : Rc := ⟨3, 0, 0, 0, kh0, ⟨0, []⟩, [7, 9]⟩
def kt1 : Rc := ⟨8, 0, 50, 0, ⟨0, 0, 0, 0, 0, 0⟩, ⟨0, []⟩, []⟩
def kk1 : Kp := ⟨kh0, false, [], [⟨0, [7]⟩, ⟨1, [8]⟩], 4, 0, 0, 0, [⟨1, 1⟩], false, false⟩
def kk2 : Kp := ⟨kh0, false, [], [], 0, 0, 0, 0, [⟨1, 1⟩], true, false⟩
def kp1 : Pc := ⟨2, [kk1], 0, 0⟩
def kp2 : Pc := ⟨2, [kk2], 0, 0⟩
def kp3 : Pc := ⟨2, [], 50, 0⟩
theorem kheld1 : replayF 2 [kr1, kr2, kr3] = (kp1, 0) := by decide +kernel
theorem kheld2 : nextF kp1 kd1 = (kp2, 0) := by decide +kernel
theorem kheld3 : nextF kp1 kd2 = (Pc.zero, 9) := by decide +kernel
theorem kheld4 : nextF kp2 kt1 = (kp3, 0) := by decide +kernel
theorem kheld5 : newF 3 = (⟨3, [], 0, 0⟩, 0) := by decide +kernel
theorem kheld6 : findF kp1.keep 1 0 = 0 := by decide +kernel
theorem kheld7 : findF kp3.keep 1 0 = -1 := by decide +kernel
theorem kwf (r : Rc) (h : r = kr1 ∨ r = kr2 ∨ r = kr3 ∨ r = kd1 ∨ r = kd2 ∨ r = kt1) : r.wf := by
  rcases h with rfl | rfl | rfl | rfl | rfl | rfl <;> (unfold Rc.wf Hd.wf; decide)
set_option maxRecDepth 100000 in
theorem khead_any (w : World) : Calls Tryz.prog 62 #[] w fun e w' => e = .returned (.agg #[.int .i64 1, .int .i64 0, .int .i64 2, .int .i64 50, .int .i64 2, .int .i64 1]) ∧ Fr w w' := by
  go_enter Tryz.func62, Tryz.ntmps62
  go_wp2_with fail
  refine bodyPost_ret (v := .agg #[.int .i64 1, .int .i64 0, .int .i64 2, .int .i64 50, .int .i64 2, .int .i64 1]) ?_ rfl ?_
  · simp [results, Tryz.results62, go_sem]
  · exact ⟨rfl, by (repeat' (first | exact Below.refl _ _ | refine below_drewN ?_ _ | refine Below.drew ?_ | refine frA ?_ _))⟩
theorem byt_none {w : World} {S : Nat → Prop} : Byt w S none 0 0 [] := ⟨⟨by unfold lim; omega, by omega, by unfold maxLen; omega⟩, Sl.nil⟩
set_option maxRecDepth 100000 in
set_option maxHeartbeats 8000000 in
theorem keepHeld_any (w : World) : Calls Tryz.prog 15 #[] w fun e w' => e = .returned (.bool true) ∧ Fr w w' := by
  go_enter Tryz.func15, Tryz.ntmps15
  go_wp2_with fail
  refine (khead_any _).mono ?_
  rintro e w1 ⟨rfl, hf1⟩
  have HF1 := Lib.hid hf1
  clear hf1
  go_wp2_with fail
  obtain ⟨b, hb⟩ : ∃ b, b = w1.heap.size := ⟨_, rfl⟩
  rw [← hb]
  obtain ⟨W2, hW2⟩ : ∃ W2, W2 = (((w1.alloc (.cells #[.int .i64 1, .int .i64 0, .int .i64 2, .int .i64 50, .int .i64 2, .int .i64 1] 34)).alloc (.cells #[.int .u8 7] 5)).alloc (.cells #[.int .u8 8] 5)).alloc (.cells #[.int .i64 2, .int .i64 0, .int .i64 0, .int .i64 0, .int .i64 1, .int .i64 0, .int .i64 2, .int .i64 50, .int .i64 2, .int .i64 1, .int .i64 0, .slice (some ⟨b + 1, 0, none⟩) 1 1, .slice none 0 0, .int .i64 2, .int .i64 0, .int .i64 0, .int .i64 0, .int .i64 1, .int .i64 0, .int .i64 2, .int .i64 50, .int .i64 2, .int .i64 1, .int .i64 1, .slice (some ⟨b + 1 + 1, 0, none⟩) 1 1, .slice none 0 0, .int .i64 6, .int .i64 1, .int .i64 4, .int .i64 1, .int .i64 1, .int .i64 0, .int .i64 2, .int .i64 50, .int .i64 2, .int .i64 1, .int .i64 0, .slice none 0 0, .slice none 0 0] 40) := ⟨_, rfl⟩
  have HB2 : Hid (W2.heap[b]? = some (.cells #[.int .i64 1, .int .i64 0, .int .i64 2, .int .i64 50, .int .i64 2, .int .i64 1] 34 (0, 0))) := by rw [hW2]; exact heap_old (heap_old (heap_old (heap_new hb)))
  have hd1 : W2.heap[b + 1]? = some (.cells #[.int .u8 7] 5 (0, 0)) := by rw [hW2]; exact heap_old (heap_old (heap_new (by rw [hb]; simp)))
  have hd2 : W2.heap[b + 1 + 1]? = some (.cells #[.int .u8 8] 5 (0, 0)) := by rw [hW2]; exact heap_old (heap_new (by rw [hb]; simp))
  have hL : W2.heap[b + 1 + 1 + 1]? = some (.cells #[.int .i64 2, .int .i64 0, .int .i64 0, .int .i64 0, .int .i64 1, .int .i64 0, .int .i64 2, .int .i64 50, .int .i64 2, .int .i64 1, .int .i64 0, .slice (some ⟨b + 1, 0, none⟩) 1 1, .slice none 0 0, .int .i64 2, .int .i64 0, .int .i64 0, .int .i64 0, .int .i64 1, .int .i64 0, .int .i64 2, .int .i64 50, .int .i64 2, .int .i64 1, .int .i64 1, .slice (some ⟨b + 1 + 1, 0, none⟩) 1 1, .slice none 0 0, .int .i64 6, .int .i64 1, .int .i64 4, .int .i64 1, .int .i64 1, .int .i64 0, .int .i64 2, .int .i64 50, .int .i64 2, .int .i64 1, .int .i64 0, .slice none 0 0, .slice none 0 0] 40 (0, 0)) := by rw [hW2]; exact heap_new (by rw [hb]; simp)
  have HF2 : Hid (Fr w W2) := by rw [hW2]; exact (((HF1.out.trans (frAlloc _ _)).trans (frAlloc _ _)).trans (frAlloc _ _)).trans (frAlloc _ _)
  have by1 : Byt W2 (LT W2.heap.size) (some ⟨b + 1, 0, none⟩) 1 1 [7] := ⟨⟨by unfold lim; omega, by omega, by unfold maxLen; omega⟩, Sl.litBytes hd1 (blk_LT hd1) rfl rfl⟩
  have by2 : Byt W2 (LT W2.heap.size) (some ⟨b + 1 + 1, 0, none⟩) 1 1 [8] := ⟨⟨by unfold lim; omega, by omega, by unfold maxLen; omega⟩, Sl.litBytes hd2 (blk_LT hd2) rfl rfl⟩
  have HS : Hid (Sl 13 eRc W2 (LT W2.heap.size) (some ⟨b + 1 + 1 + 1, 0, none⟩) 3 [kr1, kr2, kr3]) := Sl.lit hL (blk_LT hL) rfl fun i x hx => by
    have hi : i = 0 ∨ i = 1 ∨ i = 2 := by have := (List.getElem?_eq_some_iff.1 hx).1; simp at this; omega
    rcases hi with rfl | rfl | rfl
    · obtain rfl : kr1 = x := by simpa using hx
      exact eRc_iff.2 ⟨_, _, _, none, 0, 0, ⟨rfl, rfl, rfl, rfl, rfl, rfl, rfl, rfl, rfl, rfl, rfl, rfl, rfl⟩, kwf _ (by simp), by1, byt_none⟩
    · obtain rfl : kr2 = x := by simpa using hx
      exact eRc_iff.2 ⟨_, _, _, none, 0, 0, ⟨rfl, rfl, rfl, rfl, rfl, rfl, rfl, rfl, rfl, rfl, rfl, rfl, rfl⟩, kwf _ (by simp), by2, byt_none⟩
    · obtain rfl : kr3 = x := by simpa using hx
      exact eRc_iff.2 ⟨none, 0, 0, none, 0, 0, ⟨rfl, rfl, rfl, rfl, rfl, rfl, rfl, rfl, rfl, rfl, rfl, rfl, rfl⟩, kwf _ (by simp), byt_none, byt_none⟩
  rw [← hW2]
  clear hW2 hb hd1 hd2 hL by1 by2 HF1
  with_reducible refine (keepReplay_any W2 2 _ 3 3 [kr1, kr2, kr3] HS.out (by unfold maxLen; omega)).mono ?_
  rw [kheld1]
  rintro e w3 ⟨A3, n3, c3, rfl, hb3, hs3, hf3⟩
  obtain rfl : n3 = 1 := hs3.1.symm
  dsimp only [kp1]
  have HB3 := Lib.hid (blk_go HB2.out hf3)
  have HF3 : Hid (Fr w w3) := HF2.out.trans hf3
  have HS3 : Hid (Sl 16 eKp w3 (LT w3.heap.size) A3 1 kp1.keep) := hs3.more sKp fun b hb => hb.2
  clear hb3 hs3 hf3 HB2 HS HF2
  have hbx := HB3.out
  (obtain ⟨bh0, bh1, bh2, bh3, bh4, bh5⟩ := box6_ hbx)
  clear hbx
  go_upto_region 4 with fail
  obtain ⟨W4, hW4⟩ : ∃ W4, W4 = w3.alloc (.cells #[.int .i64 2, .slice A3 1 c3, .int .i64 0, .int .i64 0] 25) := ⟨_, rfl⟩
  obtain ⟨b3, hb3⟩ : ∃ b3, b3 = w3.heap.size := ⟨_, rfl⟩
  have HP4 : Hid (W4.heap[b3]? = some (.cells #[.int .i64 2, .slice A3 1 c3, .int .i64 0, .int .i64 0] 25 (0, 0))) := by rw [hW4]; exact heap_new hb3
  have hf4 : Fr w3 W4 := by rw [hW4]; exact frAlloc _ _
  have HB4 := Lib.hid (blk_go HB3.out hf4)
  have HF4 : Hid (Fr w W4) := HF3.out.trans hf4
  have HS4 := Lib.hid (HS3.out.go sKp hf4)
  rw [← hW4, ← hb3]
  clear hW4 hb3 hf4 HB3 HF3 HS3 bh0 bh1 bh2 bh3 bh4 bh5
  have hbx := HB4.out
  (obtain ⟨bh0, bh1, bh2, bh3, bh4, bh5⟩ := box6_ hbx)
  have hpx := HP4.out
  (obtain ⟨bp0, bp1, bp2, bp3⟩ := box4_ hpx)
  clear hbx hpx
  have HFW := HF4
  have HP3 := HP4
  have HB := HB4
  have HS3 := HS4
  clear HF4 HP4 HB4 HS4
  go_wp2_with fail
  refine (keepNext_any (W4.alloc (.cells #[.int .u8 7, .int .u8 8] 5)) kp1 A3 1 c3 (HS3.out.go sKp (frAlloc _ _)) (by unfold maxLen; omega) kd1 none 0 0 (some ⟨W4.heap.size, 0, none⟩) 2 2 (kwf _ (by simp)) byt_none ⟨⟨by unfold lim; omega, by omega, by unfold maxLen; omega⟩, Sl.litBytes (heap_new rfl) (by simp [LT]) rfl rfl⟩).mono ?_
  rw [kheld2]
  rintro e w5 ⟨A5, n5, c5, rfl, hb5, hs5, hf5⟩
  obtain rfl : n5 = 1 := hs5.1.symm
  dsimp only [kp2]
  have HFN : Hid (Fr W4 w5) := Fr.trans (frAlloc _ _) hf5
  clear bh0 bh1 bh2 bh3 bh4 bh5 bp0 bp1 bp2 bp3
  go_upto_region 5 with fail
  obtain ⟨W6, hWn⟩ : ∃ Wn, Wn = w5.alloc (.cells #[.int .i64 2, .slice A5 1 c5, .int .i64 0, .int .i64 0] 25) := ⟨_, rfl⟩
  obtain ⟨b5, hbn⟩ : ∃ bn, bn = w5.heap.size := ⟨_, rfl⟩
  have HPb5 : Hid (W6.heap[b5]? = some (.cells #[.int .i64 2, .slice A5 1 c5, .int .i64 0, .int .i64 0] 25 (0, 0))) := by rw [hWn]; exact heap_new hbn
  have HFM : Hid (Fr W4 W6) := by rw [hWn]; exact HFN.out.trans (frAlloc _ _)
  have HSb5 : Hid (Sl 16 eKp W6 (LT W6.heap.size) A5 1 kp2.keep) := by rw [hWn]; exact (hs5.more sKp fun b hb => hb.2).go sKp (frAlloc _ _)
  have HP3 := Lib.hid (blk_go HP3.out HFM.out)
  have HB := Lib.hid (blk_go HB.out HFM.out)
  have HS3 := Lib.hid (HS3.out.go sKp HFM.out)
  have HFW : Hid (Fr w W6) := HFW.out.trans HFM.out
  rw [← hWn, ← hbn]
  clear hWn hbn HFN HFM hb5 hs5 hf5
  have hq := HB.out
  (obtain ⟨bh0, bh1, bh2, bh3, bh4, bh5⟩ := box6_ hq)
  clear hq
  have hq := HP3.out
  (obtain ⟨bp0, bp1, bp2, bp3⟩ := box4_ hq)
  clear hq
  go_wp2_with fail
  refine (keepNext_any (W6.alloc (.cells #[.int .u8 7, .int .u8 9] 5)) kp1 A3 1 c3 (HS3.out.go sKp (frAlloc _ _)) (by unfold maxLen; omega) kd2 none 0 0 (some ⟨W6.heap.size, 0, none⟩) 2 2 (kwf _ (by simp)) byt_none ⟨⟨by unfold lim; omega, by omega, by unfold maxLen; omega⟩, Sl.litBytes (heap_new rfl) (by simp [LT]) rfl rfl⟩).mono ?_
  rw [kheld3]
  rintro e w7 ⟨A7, n5, c7, rfl, hb5, hs5, hf5⟩
  obtain rfl : n5 = 0 := hs5.1.symm
  dsimp only [Pc.zero]
  have HFN : Hid (Fr W6 w7) := Fr.trans (frAlloc _ _) hf5
  clear bh0 bh1 bh2 bh3 bh4 bh5 bp0 bp1 bp2 bp3
  go_upto_region 6 with fail
  obtain ⟨W8, hWn⟩ : ∃ Wn, Wn = w7.alloc (.cells #[.int .i64 0, .slice A7 0 c7, .int .i64 0, .int .i64 0] 25) := ⟨_, rfl⟩
  obtain ⟨b7, hbn⟩ : ∃ bn, bn = w7.heap.size := ⟨_, rfl⟩
  have HPb7 : Hid (W8.heap[b7]? = some (.cells #[.int .i64 0, .slice A7 0 c7, .int .i64 0, .int .i64 0] 25 (0, 0))) := by rw [hWn]; exact heap_new hbn
  have HFM : Hid (Fr W6 W8) := by rw [hWn]; exact HFN.out.trans (frAlloc _ _)
  have HSb7 : Hid (Sl 16 eKp W8 (LT W8.heap.size) A7 0 Pc.zero.keep) := by rw [hWn]; exact (hs5.more sKp fun b hb => hb.2).go sKp (frAlloc _ _)
  have HP3 := Lib.hid (blk_go HP3.out HFM.out)
  have HB := Lib.hid (blk_go HB.out HFM.out)
  have HPb5 := Lib.hid (blk_go HPb5.out HFM.out)
  have HS3 := Lib.hid (HS3.out.go sKp HFM.out)
  have HSb5 := Lib.hid (HSb5.out.go sKp HFM.out)
  have HFW : Hid (Fr w W8) := HFW.out.trans HFM.out
  rw [← hWn, ← hbn]
  clear hWn hbn HFN HFM hb5 hs5 hf5
  have hq := HPb5.out
  (obtain ⟨bp0, bp1, bp2, bp3⟩ := box4_ hq)
  clear hq
  go_wp2_with fail
  refine (keepNext_any W8 kp2 A5 1 c5 (HSb5.out.go sKp (Below.refl _ _)) (by unfold maxLen; omega) kt1 none 0 0 none 0 0 (kwf _ (by simp)) byt_none byt_none).mono ?_
  rw [kheld4]
  rintro e w9 ⟨A9, n5, c9, rfl, hb5, hs5, hf5⟩
  obtain rfl : n5 = 0 := hs5.1.symm
  dsimp only [kp3]
  have HFN : Hid (Fr W8 w9) := Fr.trans (Below.refl _ _) hf5
  clear bp0 bp1 bp2 bp3
  go_upto_region 7 with fail
  obtain ⟨WA, hWn⟩ : ∃ Wn, Wn = w9.alloc (.cells #[.int .i64 2, .slice A9 0 c9, .int .i64 50, .int .i64 0] 25) := ⟨_, rfl⟩
  obtain ⟨b9, hbn⟩ : ∃ bn, bn = w9.heap.size := ⟨_, rfl⟩
  have HPb9 : Hid (WA.heap[b9]? = some (.cells #[.int .i64 2, .slice A9 0 c9, .int .i64 50, .int .i64 0] 25 (0, 0))) := by rw [hWn]; exact heap_new hbn
  have HFM : Hid (Fr W8 WA) := by rw [hWn]; exact HFN.out.trans (frAlloc _ _)
  have HSb9 : Hid (Sl 16 eKp WA (LT WA.heap.size) A9 0 kp3.keep) := by rw [hWn]; exact (hs5.more sKp fun b hb => hb.2).go sKp (frAlloc _ _)
  have HP3 := Lib.hid (blk_go HP3.out HFM.out)
  have HB := Lib.hid (blk_go HB.out HFM.out)
  have HPb5 := Lib.hid (blk_go HPb5.out HFM.out)
  have HS3 := Lib.hid (HS3.out.go sKp HFM.out)
  have HSb5 := Lib.hid (HSb5.out.go sKp HFM.out)
  have HFW : Hid (Fr w WA) := HFW.out.trans HFM.out
  rw [← hWn, ← hbn]
  clear hWn hbn HFN HFM hb5 hs5 hf5
  go_wp2_with fail
  refine (keepNew_any _ 3).mono ?_
  rw [kheld5]
  rintro e wB ⟨AB, nB, cB, rfl, hbB, hsB, hfB⟩
  obtain rfl : nB = 0 := hsB.1.symm
  dsimp only
  have HFC : Hid (Fr w wB) := HFW.out.trans hfB
  have HS3 := Lib.hid (HS3.out.go sKp hfB)
  have HSb5 := Lib.hid (HSb5.out.go sKp hfB)
  have HSb9 := Lib.hid (HSb9.out.go sKp hfB)
  have HP3 := Lib.hid (blk_go HP3.out hfB)
  have HPb5 := Lib.hid (blk_go HPb5.out hfB)
  have HPb9 := Lib.hid (blk_go HPb9.out hfB)
  clear hbB hsB hfB
  obtain ⟨ad3, hA3, hE3⟩ := HS3.out.els (by omega)
  subst hA3
  obtain ⟨x3, hx3, hr3⟩ := hE3.row (show 0 < 1 by omega)
  obtain rfl : kk1 = x3 := by simpa [kp1] using hx3
  obtain ⟨ad5, hA5, hE5⟩ := HSb5.out.els (by omega)
  subst hA5
  obtain ⟨x5, hx5, hr5⟩ := hE5.row (show 0 < 1 by omega)
  obtain rfl : kk2 = x5 := by simpa [kp2] using hx5
  obtain ⟨_, _, _, _, _, _, _, _, _, ⟨_, _, _, _, _, _, _, _, _, m9, _⟩, _⟩ := eKp_at hr3
  obtain ⟨_, _, _, _, _, _, _, _, _, ⟨_, _, _, _, _, _, _, _, _, k9, _, _, _, _, k14, _⟩, _⟩ := eKp_at hr5
  have m9' : wB.cell? ⟨ad3.block, ad3.off + 9, none⟩ = some (.int .i64 4) := m9
  have k9' : wB.cell? ⟨ad5.block, ad5.off + 9, none⟩ = some (.int .i64 0) := k9
  have k14' : wB.cell? ⟨ad5.block, ad5.off + 14, none⟩ = some (.bool true) := k14
  have l3 : ad3.block < wB.heap.size := hE3.2.1
  have l5 : ad5.block < wB.heap.size := hE5.2.1
  have hp3 := HP3.out
  have hp5 := HPb5.out
  have hp9 := HPb9.out
  (obtain ⟨u0, u1, u2, u3⟩ := box4_ hp3)
  (obtain ⟨v0, v1, v2, v3⟩ := box4_ hp5)
  (obtain ⟨x0, x1, x2, x3⟩ := box4_ hp9)
  have q3 := (Array.getElem?_eq_some_iff.1 hp3).1
  have q5 := (Array.getElem?_eq_some_iff.1 hp5).1
  have q9 := (Array.getElem?_eq_some_iff.1 hp9).1
  clear m9 k9 k14 hE3 hE5 hr3 hr5 hx3 hx5 hp3 hp5 hp9
  go_wp2_with fail
  refine (keepFind_any _ 2 0 0 (some ad3) 1 c3 kp1.keep 1 0 (HS3.out.go sKp (frAlloc _ _)) (by unfold maxLen; omega)).mono ?_
  rw [kheld6]
  rintro e wD ⟨rfl, hfD⟩
  have HFD : Hid (Fr wB wD) := (frAlloc _ _).trans hfD
  have hp9 := blk_go HPb9.out HFD.out
  (obtain ⟨y0, y1, y2, y3⟩ := box4_ hp9)
  clear hp9 hfD u0 u1 u2 u3 v0 v1 v2 v3 x0 x1 x2 x3 m9' k9' k14'
  go_wp2_with fail
  refine (keepFind_any _ 2 50 0 A9 0 c9 kp3.keep 1 0 (HSb9.out.go sKp HFD.out) (by unfold maxLen; omega)).mono ?_
  rw [kheld7]
  rintro e wE ⟨rfl, hfE⟩
  have HFE : Hid (Fr w wE) := (HFC.out.trans HFD.out).trans hfE
  clear hfE
  go_wp2_with fail
  go_ret
  exact ⟨rfl, HFE.out⟩
end Go.Proofs.YtmiaplgfbphfmaaGreatDoor
