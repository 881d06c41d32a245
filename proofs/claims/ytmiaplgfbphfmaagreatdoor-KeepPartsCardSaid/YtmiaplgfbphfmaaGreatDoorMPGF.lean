/- keep.next: what a record makes of a place of one's own. Condition: the place is one, the record is one. -/
import Derived.Test.YtmiaplgfbphfmaaGreatDoorMPGC
import Derived.Test.YtmiaplgfbphfmaaGreatDoorMPGB
import Derived.Test.YtmiaplgfbphfmaaGreatDoorMPGD
import Derived.Test.YtmiaplgfbphfmaaGreatDoorMPGI
import Derived.Test.YtmiaplgfbphfmaaGreatDoorMPQ
set_option linter.unusedSimpArgs false
set_option linter.unusedVariables false
namespace Go.Proofs.YtmiaplgfbphfmaaGreatDoor
open Go.RowKit
attribute [local irreducible] wpList

/-- What keep.next leaves. -/
def NextPost (w : World) (base pb : Nat) (p : Pc) (r : Rc) (e : Ending) (w' : World) : Prop :=
  e = .returned (.int .i64 (stepF p r).2) ∧ Chg (PlS base pb) w w' ∧ ((stepF p r).2 = 0 → ∃ A c, PlM w' base pb (stepF p r).1 A c)
theorem stepF_bun {p : Pc} {r : Rc} (h1 : r.kind ≠ 1) (h8 : r.kind ≠ 8) (hf : (r.kind = 3 ∨ r.kind = 4 ∨ r.kind = 5) → findAt r.h.frm r.h.seq p.keep ≠ none) : stepF p r = if (bundleF p r.h).2 ≠ 0 then (p, (bundleF p r.h).2)
    else if (elemF p.me (bundleF p r.h).1.2.2 r).2 ≠ 0 then (p, (elemF p.me (bundleF p r.h).1.2.2 r).2) else ({ p with keep := (bundleF p r.h).1.1.set (bundleF p r.h).1.2.1 (elemF p.me (bundleF p r.h).1.2.2 r).1 }, 0) := by
  unfold stepF
  rw [if_neg h1, if_neg h8, if_neg (fun e => hf e.1 e.2)]
theorem next_err {w w' : World} {base pb : Nat} {p : Pc} {r : Rc} {k : Int} (hk : k ≠ 0) (hb : Chg (PlS base pb) w w') (e : stepF p r = (p, k)) : NextPost w base pb p r (.returned (.int .i64 k)) w' := by
  unfold NextPost
  rw [e]
  exact ⟨rfl, hb, fun h => absurd h hk⟩
theorem next_elem {w w5 w6 : World} {base pb : Nat} {p : Pc} {r : Rc} {A : Option Addr} {c : Nat} {l : List Kp} {i : Nat} {x : Kp} {g cap : Nat} {Ac : Option Addr} {nc cc : Nat} {vS vT : Value} {T : Nat → Prop} {e : Ending} (hpb : pb < base) (hbw : base ≤ w.heap.size) (hown : ∀ b, (Value.slice A p.keep.length c).ownBlock = some b → base ≤ b)
    (hch : Chg (BunS pb (.slice A p.keep.length c)) w w5) (hbk : w5.heap[pb]? = some (.cells #[.int .i64 p.me, .slice (some ⟨g, 0, none⟩) l.length cap, .int .i64 p.time, .int .i64 p.seq] 25 (0, 0))) (hfo : Foc0 T w5 base g cap l i x Ac nc cc vS vT)
    (hbe : bundleF p r.h = ((l, i, x), 0)) (hst : stepF p r = if (bundleF p r.h).2 ≠ 0 then (p, (bundleF p r.h).2) else if (elemF p.me (bundleF p r.h).1.2.2 r).2 ≠ 0 then (p, (elemF p.me (bundleF p r.h).1.2.2 r).2) else ({ p with keep := (bundleF p r.h).1.1.set (bundleF p r.h).1.2.1 (elemF p.me (bundleF p r.h).1.2.2 r).1 }, 0))
    (hp : FocPost T w5 base g cap l i Ac nc cc vS vT (elemF p.me x r) e w6) : NextPost w base pb p r e w6 := by
  obtain ⟨he, hC, vS', vT', hF⟩ := hp
  have hS : ∀ b, FocS g vS vT b → base ≤ b := fun b hb => by
    rcases hb with hb | hb | hb
    · rw [hb]; exact hfo.foc.hbg
    · exact (hfo.foc.syms.ge hb).1
    · exact (hfo.foc.took.ge hb).1
  have hB : Chg (PlS base pb) w w6 := by
    have q1 : Chg (PlS base pb) w w5 := hch.more fun b hb => by
      rcases hb with hb | hb
      · exact .inl hb
      · exact .inr (hown b hb)
    have q2 : Chg (PlS base pb) w5 w6 := hC.more fun b hb => .inr (hS b hb)
    exact q1.trans q2
  unfold NextPost
  rw [hst, hbe]
  dsimp only
  rw [if_neg (by decide)]
  by_cases h0 : (elemF p.me x r).2 = 0
  · rw [if_neg (fun h => h h0)]
    refine ⟨by rw [he, h0], hB, fun _ => ⟨some ⟨g, 0, none⟩, cap, ?_, hpb, ?_⟩⟩
    · show _ = some (Obj.cells #[_, Value.slice _ (l.set i (elemF p.me x r).1).length _, _, _] _ _)
      rw [List.length_set]
      exact hC.blk hbk fun h => by have := hS _ h; omega
    · show Own 16 (eHi base eKp) w6 base _ (.slice _ (l.set i (elemF p.me x r).1).length _) (l.set i (elemF p.me x r).1)
      rw [List.length_set]
      exact hF.toOwn
  · rw [if_pos h0]
    exact ⟨he, hB, fun h => absurd h h0⟩

set_option maxRecDepth 100000 in
set_option maxHeartbeats 32000000 in
theorem nextRec_any (w : World) (base pb : Nat) (p : Pc) (A : Option Addr) (c : Nat) (lo : Nat → Nat) (hp : PlA w base pb p A c lo) (hok : PcOk p) (r : Rc) (hro : RcOk r) (B : Option Addr) (nb cb : Nat) (B2 : Option Addr) (nb2 cb2 : Nat) (hwr : r.wf) (S : Nat → Prop) (hbd : Byt w S B nb cb r.s.data) (hbc : Byt w S B2 nb2 cb2 r.cargo) (hS : ∀ b, S b → b < pb) (hbw : base ≤ w.heap.size) :
    Calls Tryz.prog 66 #[.pointer (some ⟨pb, 0, none⟩), .agg #[.int .i64 r.kind, .int .i64 r.place, .int .i64 r.n, .int .i64 r.try_, .int .i64 r.h.frm, .int .i64 r.h.seq, .int .i64 r.h.to, .int .i64 r.h.till, .int .i64 r.h.bytes, .int .i64 r.h.block, .int .i64 r.s.id, .slice B nb cb, .slice B2 nb2 cb2]] w (NextPost w base pb p r) := by
  have h12 := hok.len
  have hsq := hok.seq
  have hpb := hp.low
  have hpl := (Array.getElem?_eq_some_iff.1 hp.blk).1
  obtain ⟨_, wp, wn, wt, hwh, ws⟩ := hwr
  have HBD : Hid (Byt w (LT w.heap.size) B nb cb r.s.data) := ⟨hbd.1, hbd.2.more sByte fun b hb => Nat.lt_trans (hS b hb) hpl⟩
  have HBC : Hid (Byt w (LT w.heap.size) B2 nb2 cb2 r.cargo) := ⟨hbc.1, hbc.2.more sByte fun b hb => Nat.lt_trans (hS b hb) hpl⟩
  have HBS := Lib.hid hbd
  have HCS := Lib.hid hbc
  have H := Lib.hid hp
  obtain ⟨kd, hkd⟩ : ∃ k, k = r.kind := ⟨_, rfl⟩
  have HKD := Lib.hid hkd
  have hk18 := hro.kind
  rw [← hkd] at hk18 ⊢
  have k8 : kd = 1 ∨ kd = 2 ∨ kd = 3 ∨ kd = 4 ∨ kd = 5 ∨ kd = 6 ∨ kd = 7 ∨ kd = 8 := by omega
  clear hp hkd hk18 hbd hbc
  go_enter Tryz.func66, Tryz.ntmps66
  rcases k8 with rfl | rfl | rfl | rfl | rfl | rfl | rfl | rfl
  · skip
    have hkr : r.kind = 1 := HKD.out.symm
    go_upto_region 1 with fail
    obtain ⟨W1, hW1⟩ : ∃ W1, W1 = w.alloc (.cells #[.int .i64 1, .int .i64 r.place, .int .i64 r.n, .int .i64 r.try_, .int .i64 r.h.frm, .int .i64 r.h.seq, .int .i64 r.h.to, .int .i64 r.h.till, .int .i64 r.h.bytes, .int .i64 r.h.block, .int .i64 r.s.id, .slice B nb cb, .slice B2 nb2 cb2] 40) := ⟨_, rfl⟩
    obtain ⟨q, hq⟩ : ∃ q, q = w.heap.size := ⟨_, rfl⟩
    have HQ1 : Hid (W1.heap[q]? = some (.cells #[.int .i64 1, .int .i64 r.place, .int .i64 r.n, .int .i64 r.try_, .int .i64 r.h.frm, .int .i64 r.h.seq, .int .i64 r.h.to, .int .i64 r.h.till, .int .i64 r.h.bytes, .int .i64 r.h.block, .int .i64 r.s.id, .slice B nb cb, .slice B2 nb2 cb2] 40 (0, 0))) := by rw [hW1]; exact heap_new hq
    have HF1 : Hid (Fr w W1) := by rw [hW1]; exact frAlloc _ _
    rw [← hW1, ← hq]
    have HQW : Hid (q = w.heap.size) := hq
    clear hW1 hq
    have hbx := (H.out.fr HF1.out).blk
    have hqx := HQ1.out
    (obtain ⟨bp0, bp1, bp2, bp3⟩ := box4_ hbx)
    (obtain ⟨bx0, bx1, bx2, bx3, bx4, bx5, bx6, bx7, bx8, bx9, bx10, bx11, bx12⟩ := box13_ hqx)
    clear hbx hqx
    have ES : Hid (stepF p r = sendF p r) := by unfold stepF Hid; rw [if_pos hkr]
    have SD := Lib.hid (send_any W1 base pb p A c (H.out.fr HF1.out).plM h12 hsq r B nb cb B2 nb2 cb2 hwh wn (HBC.out.go HF1.out) (Nat.le_trans hbw HF1.out.size))
    rw [hkr, ← ES.out] at SD
    go_wp2_with fail
    (with_reducible refine (SD.out).mono ?_)
    rintro e w6 ⟨rfl, hb6, hp6⟩
    have HB6 : Hid (Chg (PlS base pb) w w6) := HF1.out.chg.trans hb6
    have HP6 := Lib.hid hp6
    clear hb6 hp6 SD
    go_wp2_with fail
    go_ret
    exact ⟨rfl, HB6.out, fun _ => HP6.out⟩
  · skip
    have hkr : r.kind = 2 := HKD.out.symm
    go_upto_region 1 with fail
    obtain ⟨W1, hW1⟩ : ∃ W1, W1 = w.alloc (.cells #[.int .i64 2, .int .i64 r.place, .int .i64 r.n, .int .i64 r.try_, .int .i64 r.h.frm, .int .i64 r.h.seq, .int .i64 r.h.to, .int .i64 r.h.till, .int .i64 r.h.bytes, .int .i64 r.h.block, .int .i64 r.s.id, .slice B nb cb, .slice B2 nb2 cb2] 40) := ⟨_, rfl⟩
    obtain ⟨q, hq⟩ : ∃ q, q = w.heap.size := ⟨_, rfl⟩
    have HQ1 : Hid (W1.heap[q]? = some (.cells #[.int .i64 2, .int .i64 r.place, .int .i64 r.n, .int .i64 r.try_, .int .i64 r.h.frm, .int .i64 r.h.seq, .int .i64 r.h.to, .int .i64 r.h.till, .int .i64 r.h.bytes, .int .i64 r.h.block, .int .i64 r.s.id, .slice B nb cb, .slice B2 nb2 cb2] 40 (0, 0))) := by rw [hW1]; exact heap_new hq
    have HF1 : Hid (Fr w W1) := by rw [hW1]; exact frAlloc _ _
    rw [← hW1, ← hq]
    have HQW : Hid (q = w.heap.size) := hq
    clear hW1 hq
    have hbx := (H.out.fr HF1.out).blk
    have hqx := HQ1.out
    (obtain ⟨bp0, bp1, bp2, bp3⟩ := box4_ hbx)
    (obtain ⟨bx0, bx1, bx2, bx3, bx4, bx5, bx6, bx7, bx8, bx9, bx10, bx11, bx12⟩ := box13_ hqx)
    clear hbx hqx
    have HFB := HF1
    have HQB := HQ1
    obtain ⟨WB, rfl⟩ : ∃ WB, WB = W1 := ⟨_, rfl⟩
    have EB := Lib.hid (stepF_bun (p := p) (r := r) (by rw [hkr]; decide) (by rw [hkr]; decide) (fun e => absurd e (by rw [hkr]; decide)))
    go_upto_region 9 with fail
    go_wp2_with fail
    with_reducible refine (bundle_any WB base pb p A c lo (H.out.fr HFB.out) h12 r.h hwh (Nat.le_trans hbw HFB.out.size)).mono ?_
    rintro e w6 hbun
    have hown : ∀ b, (Value.slice A p.keep.length c).ownBlock = some b → base ≤ b ∧ b < w.heap.size := fun b hb => (H.out.plM.own).ge hb
    rcases hbun with ⟨rfl, hne, hch, hpl5⟩ | ⟨l, i, x, g, cap, Ac, nc, cc, vS, vT, T, hbe, rfl, hch, hbk, hfo⟩
    · obtain ⟨be, hbe⟩ : ∃ be, be = (bundleF p r.h).2 := ⟨_, rfl⟩
      have E5 : Hid (stepF p r = (p, be)) := by rw [hbe]; exact EB.out.trans (if_pos hne)
      rw [← hbe] at hne ⊢
      have t0 : (be != 0) = true := by simp [hne]
      have HB6 : Hid (Chg (PlS base pb) w w6) := by
        have q1 : Chg (PlS base pb) w WB := HFB.out.chg
        have q2 : Chg (PlS base pb) WB w6 := hch.more fun b hb => by
          rcases hb with hb | hb
          · exact .inl hb
          · exact .inr (hown b hb).1
        exact q1.trans q2
      have HNE := Lib.hid hne
      clear hbe hch hpl5 hne EB bp0 bp1 bp2 bp3 bx0 bx1 bx2 bx3 bx4 bx5 bx6 bx7 bx8 bx9 bx10 bx11 bx12
      go_wp2_with fail
      go_ret
      exact next_err HNE.out HB6.out E5.out
    clear bp0 bp1 bp2 bp3 bx0 bx1 bx2 bx3 bx4 bx5 bx6 bx7 bx8 bx9 bx10 bx11 bx12
    have hch6 : Chg (BunS pb (.slice A p.keep.length c)) w w6 := HFB.out.chg.trans hch
    have hnq : ¬ BunS pb (.slice A p.keep.length c) q := fun hb => by
      have := HQW.out
      rcases hb with hb | hb
      · omega
      · have := hown _ hb; omega
    have HQ6 := Lib.hid (hch.blk HQB.out hnq)
    have HBK := Lib.hid hbk
    have HFO := Lib.hid hfo
    have HEL : Hid (∀ e w7, FocPost T w6 base g cap l i Ac nc cc vS vT (elemF p.me x r) e w7 → NextPost w base pb p r e w7) := fun e w7 hp => next_elem hpb hbw (fun b hb => (hown b hb).1) hch6 hbk hfo hbe EB.out hp
    have hxk : KpOk x p.me p.time := (bundleF_ok hok (hro.head (by rw [hkr]; decide)) hbe).ok
    have hSd : ∀ b, S b → b < w.heap.size ∧ ¬ BunS pb (.slice A p.keep.length c) b := fun b hb => ⟨Nat.lt_trans (hS b hb) hpl, fun h => by
      have := hS b hb
      rcases h with h | h
      · omega
      · have := hown _ h; omega⟩
    have HBD6 : Hid (Byt w6 (LT w6.heap.size) B nb cb r.s.data) := ⟨HBS.out.1, (HBS.out.2.keep sByte fun a ha => hch6.cell (hSd _ ha).1 (hSd _ ha).2).more sByte fun b hb => Nat.lt_of_lt_of_le (hSd b hb).1 hch6.size⟩
    have HBC6 : Hid (Byt w6 (LT w6.heap.size) B2 nb2 cb2 r.cargo) := ⟨HCS.out.1, (HCS.out.2.keep sByte fun a ha => hch6.cell (hSd _ ha).1 (hSd _ ha).2).more sByte fun b hb => Nat.lt_of_lt_of_le (hSd b hb).1 hch6.size⟩
    have hbx := HBK.out
    have hqx := HQ6.out
    (obtain ⟨bp0, bp1, bp2, bp3⟩ := box4_ hbx)
    (obtain ⟨bx0, bx1, bx2, bx3, bx4, bx5, bx6, bx7, bx8, bx9, bx10, bx11, bx12⟩ := box13_ hqx)
    clear hbx hqx hbk hfo hbe hch hch6 hnq hown EB
    have KP := Lib.hid (keeps_any w6 T base g cap l i x Ac nc cc vS vT HFO.out r B nb cb B2 nb2 cb2 ws HBD6.out)
    rw [hkr] at KP
    go_wp2_with fail
    (with_reducible refine (KP.out).mono ?_)
    rintro e w7 hpost
    have hpost2 : FocPost T w6 base g cap l i Ac nc cc vS vT (elemF p.me x r) e w7 := by
      rw [show elemF p.me x r = keepsF x r from by unfold elemF; rw [if_pos hkr]]
      exact hpost
    obtain ⟨ev, hev⟩ : ∃ ev, ev = (elemF p.me x r).2 := ⟨_, rfl⟩
    have hee := hpost2.1
    rw [← hev] at hee
    have HE7 := HEL.out _ _ hpost2
    rw [hee] at HE7
    subst hee
    have HE8 := Lib.hid HE7
    clear HE7 hpost hpost2 hev HEL HFO HBD6 HBC6 KP HBK hxk
    go_wp2_with fail
    go_ret
    exact HE8.out
  · skip
    have hkr : r.kind = 3 := HKD.out.symm
    go_upto_region 1 with fail
    obtain ⟨W1, hW1⟩ : ∃ W1, W1 = w.alloc (.cells #[.int .i64 3, .int .i64 r.place, .int .i64 r.n, .int .i64 r.try_, .int .i64 r.h.frm, .int .i64 r.h.seq, .int .i64 r.h.to, .int .i64 r.h.till, .int .i64 r.h.bytes, .int .i64 r.h.block, .int .i64 r.s.id, .slice B nb cb, .slice B2 nb2 cb2] 40) := ⟨_, rfl⟩
    obtain ⟨q, hq⟩ : ∃ q, q = w.heap.size := ⟨_, rfl⟩
    have HQ1 : Hid (W1.heap[q]? = some (.cells #[.int .i64 3, .int .i64 r.place, .int .i64 r.n, .int .i64 r.try_, .int .i64 r.h.frm, .int .i64 r.h.seq, .int .i64 r.h.to, .int .i64 r.h.till, .int .i64 r.h.bytes, .int .i64 r.h.block, .int .i64 r.s.id, .slice B nb cb, .slice B2 nb2 cb2] 40 (0, 0))) := by rw [hW1]; exact heap_new hq
    have HF1 : Hid (Fr w W1) := by rw [hW1]; exact frAlloc _ _
    rw [← hW1, ← hq]
    have HQW : Hid (q = w.heap.size) := hq
    clear hW1 hq
    have hbx := (H.out.fr HF1.out).blk
    have hqx := HQ1.out
    (obtain ⟨bp0, bp1, bp2, bp3⟩ := box4_ hbx)
    (obtain ⟨bx0, bx1, bx2, bx3, bx4, bx5, bx6, bx7, bx8, bx9, bx10, bx11, bx12⟩ := box13_ hqx)
    clear hbx hqx
    have hSC : Hid (∀ w', Fr W1 w' → w'.cell? ⟨pb, 0, none⟩ = some (.int .i64 p.me) ∧ w'.cell? ⟨pb, 1, none⟩ = some (.slice A p.keep.length c) ∧ w'.cell? ⟨pb, 2, none⟩ = some (.int .i64 p.time) ∧ w'.cell? ⟨pb, 3, none⟩ = some (.int .i64 p.seq) ∧ w'.cell? ⟨q, 4, none⟩ = some (.int .i64 r.h.frm) ∧ w'.cell? ⟨q, 5, none⟩ = some (.int .i64 r.h.seq)) := fun w' hf => ⟨(hf.cell (World.block_lt_of_cell? W1 _ bp0)).trans bp0, (hf.cell (World.block_lt_of_cell? W1 _ bp1)).trans bp1, (hf.cell (World.block_lt_of_cell? W1 _ bp2)).trans bp2, (hf.cell (World.block_lt_of_cell? W1 _ bp3)).trans bp3, (hf.cell (World.block_lt_of_cell? W1 _ bx4)).trans bx4, (hf.cell (World.block_lt_of_cell? W1 _ bx5)).trans bx5⟩
    obtain ⟨kf, hkf⟩ : ∃ kf, kf = findF p.keep r.h.frm r.h.seq := ⟨_, rfl⟩
    have FD : Hid (∀ W, Fr w W → Calls Tryz.prog 42 #[.agg #[.int .i64 p.me, .slice A p.keep.length c, .int .i64 p.time, .int .i64 p.seq], .int .i64 r.h.frm, .int .i64 r.h.seq] W fun e w' => e = .returned (.int .i64 kf) ∧ Fr W w') := fun W hf => by
      rw [hkf]
      obtain ⟨A9, c9, e9, ⟨hc9, hm9⟩, hsl⟩ := (((H.out.fr hf).plM.own).ofHi sKp).slC sKp (by decide)
      injection e9 with e9 _ e10
      subst e9 e10
      exact keepFind_any W p.me p.time p.seq A _ c p.keep r.h.frm r.h.seq hsl (by unfold maxLen; omega)
    have HKF := Lib.hid hkf
    clear hkf
    go_upto_region 7 with fail
    clear bp0 bp1 bp2 bp3 bx0 bx1 bx2 bx3 bx4 bx5 bx6 bx7 bx8 bx9 bx10 bx11 bx12
    refine held_begin (n := 11) (bs := #[false, false, false, false, false, false, false, false, false, false, false]) rfl rfl (by kernel_rfl) (S := fun w' => w'.cell? ⟨pb, 0, none⟩ = some (.int .i64 p.me) ∧ w'.cell? ⟨pb, 1, none⟩ = some (.slice A p.keep.length c) ∧ w'.cell? ⟨pb, 2, none⟩ = some (.int .i64 p.time) ∧ w'.cell? ⟨pb, 3, none⟩ = some (.int .i64 p.seq) ∧ w'.cell? ⟨q, 4, none⟩ = some (.int .i64 r.h.frm) ∧ w'.cell? ⟨q, 5, none⟩ = some (.int .i64 r.h.seq)) (hSC.out _ (Below.refl _ _).drew) (fun hHeld => ?_)
    ((first | refine held_sk (i := 0) ?_ | refine held_tk (i := 0) ?_); (first | refine held_sk (i := 1) ?_ | refine held_tk (i := 1) ?_); (first | refine held_sk (i := 2) ?_ | refine held_tk (i := 2) ?_); (first | refine held_sk (i := 3) ?_ | refine held_tk (i := 3) ?_); (first | refine held_sk (i := 4) ?_ | refine held_tk (i := 4) ?_); (first | refine held_sk (i := 5) ?_ | refine held_tk (i := 5) ?_); (first | refine held_sk (i := 6) ?_ | refine held_tk (i := 6) ?_); (first | refine held_sk (i := 7) ?_ | refine held_tk (i := 7) ?_); (first | refine held_sk (i := 8) ?_ | refine held_tk (i := 8) ?_))
    refine held_one (i := 9) rfl (by kernel_rfl) (fun K hK => ?_)
    go_simp
    go_at_call 42
    (with_reducible refine (FD.out _ (HF1.out.trans (Below.refl _ _).drew)).mono ?_)
    rintro e w5 ⟨rfl, hf5⟩
    have HF15 : Hid (Fr W1 w5) := Fr.trans (Below.refl _ _).drew hf5
    (refine held_back hK (a' := ?hA1) (l' := ?hL1) ?ha1 ?hl1 (hSC.out _ HF15.out) (fun hHeld => ?hh1); (case ha1 => first | with_reducible rfl | (simp only [Act.put, hq1, hq2, hq3, Option.isNone, Bool.not_true, Bool.not_false]; (try with_reducible rfl))); (case hl1 => (simp only [Act.put, hq1, hq2, hq3, Option.isNone, Bool.not_true, Bool.not_false]; (try with_reducible rfl))); clear hK K)
    ((first | refine held_sk (i := 10) ?_ | refine held_tk (i := 10) ?_))
    refine wpAnyH_done (by kernel_rfl) ?_ _
    clear hf5 hSC hHeld FD
    obtain ⟨WB, hWB⟩ : ∃ WB, WB = w5 := ⟨_, rfl⟩
    rw [← hWB] at HF15 ⊢
    clear hWB
    have HFB : Hid (Fr w WB) := HF1.out.trans HF15.out
    have HQB := Lib.hid (blk_go HQ1.out HF15.out)
    by_cases hk0 : kf < 0
    · have hfn : findAt r.h.frm r.h.seq p.keep = none := by
        have h1 := HKF.out
        unfold findF at h1
        cases hf : findAt r.h.frm r.h.seq p.keep with
        | none => rfl
        | some i => rw [hf] at h1; dsimp only at h1; omega
      have E5 : Hid (stepF p r = (p, 5)) := by
        unfold stepF Hid
        rw [if_neg (by rw [hkr]; decide), if_neg (by rw [hkr]; decide), if_pos ⟨by rw [hkr]; decide, hfn⟩]
      have t0 : decide (kf < 0) = true := by simp [hk0]
      clear hk0 hfn
      simp only [t0]
      go_wp2_with fail
      go_ret
      exact next_err (by decide) HFB.out.chg E5.out
    have t0 : decide (kf < 0) = false := by simp; omega
    simp only [t0]
    have hfs : findAt r.h.frm r.h.seq p.keep ≠ none := fun hf => by
      have h1 := HKF.out
      unfold findF at h1
      rw [hf] at h1
      dsimp only at h1
      omega
    clear hk0
    have hbx := (H.out.fr HFB.out).blk
    have hqx := HQB.out
    (obtain ⟨bp0, bp1, bp2, bp3⟩ := box4_ hbx)
    (obtain ⟨bx0, bx1, bx2, bx3, bx4, bx5, bx6, bx7, bx8, bx9, bx10, bx11, bx12⟩ := box13_ hqx)
    clear hbx hqx
    have EB := Lib.hid (stepF_bun (p := p) (r := r) (by rw [hkr]; decide) (by rw [hkr]; decide) (fun _ => hfs))
    go_upto_region 9 with fail
    go_wp2_with fail
    with_reducible refine (bundle_any WB base pb p A c lo (H.out.fr HFB.out) h12 r.h hwh (Nat.le_trans hbw HFB.out.size)).mono ?_
    rintro e w6 hbun
    have hown : ∀ b, (Value.slice A p.keep.length c).ownBlock = some b → base ≤ b ∧ b < w.heap.size := fun b hb => (H.out.plM.own).ge hb
    rcases hbun with ⟨rfl, hne, hch, hpl5⟩ | ⟨l, i, x, g, cap, Ac, nc, cc, vS, vT, T, hbe, rfl, hch, hbk, hfo⟩
    · obtain ⟨be, hbe⟩ : ∃ be, be = (bundleF p r.h).2 := ⟨_, rfl⟩
      have E5 : Hid (stepF p r = (p, be)) := by rw [hbe]; exact EB.out.trans (if_pos hne)
      rw [← hbe] at hne ⊢
      have t0 : (be != 0) = true := by simp [hne]
      have HB6 : Hid (Chg (PlS base pb) w w6) := by
        have q1 : Chg (PlS base pb) w WB := HFB.out.chg
        have q2 : Chg (PlS base pb) WB w6 := hch.more fun b hb => by
          rcases hb with hb | hb
          · exact .inl hb
          · exact .inr (hown b hb).1
        exact q1.trans q2
      have HNE := Lib.hid hne
      clear hbe hch hpl5 hne EB bp0 bp1 bp2 bp3 bx0 bx1 bx2 bx3 bx4 bx5 bx6 bx7 bx8 bx9 bx10 bx11 bx12
      go_wp2_with fail
      go_ret
      exact next_err HNE.out HB6.out E5.out
    clear bp0 bp1 bp2 bp3 bx0 bx1 bx2 bx3 bx4 bx5 bx6 bx7 bx8 bx9 bx10 bx11 bx12
    have hch6 : Chg (BunS pb (.slice A p.keep.length c)) w w6 := HFB.out.chg.trans hch
    have hnq : ¬ BunS pb (.slice A p.keep.length c) q := fun hb => by
      have := HQW.out
      rcases hb with hb | hb
      · omega
      · have := hown _ hb; omega
    have HQ6 := Lib.hid (hch.blk HQB.out hnq)
    have HBK := Lib.hid hbk
    have HFO := Lib.hid hfo
    have HEL : Hid (∀ e w7, FocPost T w6 base g cap l i Ac nc cc vS vT (elemF p.me x r) e w7 → NextPost w base pb p r e w7) := fun e w7 hp => next_elem hpb hbw (fun b hb => (hown b hb).1) hch6 hbk hfo hbe EB.out hp
    have hxk : KpOk x p.me p.time := (bundleF_ok hok (hro.head (by rw [hkr]; decide)) hbe).ok
    have hSd : ∀ b, S b → b < w.heap.size ∧ ¬ BunS pb (.slice A p.keep.length c) b := fun b hb => ⟨Nat.lt_trans (hS b hb) hpl, fun h => by
      have := hS b hb
      rcases h with h | h
      · omega
      · have := hown _ h; omega⟩
    have HBD6 : Hid (Byt w6 (LT w6.heap.size) B nb cb r.s.data) := ⟨HBS.out.1, (HBS.out.2.keep sByte fun a ha => hch6.cell (hSd _ ha).1 (hSd _ ha).2).more sByte fun b hb => Nat.lt_of_lt_of_le (hSd b hb).1 hch6.size⟩
    have HBC6 : Hid (Byt w6 (LT w6.heap.size) B2 nb2 cb2 r.cargo) := ⟨HCS.out.1, (HCS.out.2.keep sByte fun a ha => hch6.cell (hSd _ ha).1 (hSd _ ha).2).more sByte fun b hb => Nat.lt_of_lt_of_le (hSd b hb).1 hch6.size⟩
    have hbx := HBK.out
    have hqx := HQ6.out
    (obtain ⟨bp0, bp1, bp2, bp3⟩ := box4_ hbx)
    (obtain ⟨bx0, bx1, bx2, bx3, bx4, bx5, bx6, bx7, bx8, bx9, bx10, bx11, bx12⟩ := box13_ hqx)
    clear hbx hqx hbk hfo hbe hch hch6 hnq hown EB
    have SH := Lib.hid (deliver_any w6.drew T base g cap l i x Ac nc cc vS vT (HFO.out.fr (Below.refl _ _).drew) p.me p.time p.seq (some ⟨g, 0, none⟩) l.length cap r B nb cb B2 nb2 cb2 (HBC6.out.go (Below.refl _ _).drew))
    rw [hkr] at SH
    have hSC : Hid (∀ w', Fr w6 w' → w'.cell? ⟨pb, 0, none⟩ = some (.int .i64 p.me) ∧ w'.cell? ⟨pb, 1, none⟩ = some (.slice (some ⟨g, 0, none⟩) l.length cap) ∧ w'.cell? ⟨pb, 2, none⟩ = some (.int .i64 p.time) ∧ w'.cell? ⟨pb, 3, none⟩ = some (.int .i64 p.seq) ∧ w'.cell? ⟨q, 0, none⟩ = some (.int .i64 3) ∧ w'.cell? ⟨q, 1, none⟩ = some (.int .i64 r.place) ∧ w'.cell? ⟨q, 2, none⟩ = some (.int .i64 r.n) ∧ w'.cell? ⟨q, 3, none⟩ = some (.int .i64 r.try_) ∧ w'.cell? ⟨q, 4, none⟩ = some (.int .i64 r.h.frm) ∧ w'.cell? ⟨q, 5, none⟩ = some (.int .i64 r.h.seq) ∧ w'.cell? ⟨q, 6, none⟩ = some (.int .i64 r.h.to) ∧ w'.cell? ⟨q, 7, none⟩ = some (.int .i64 r.h.till) ∧ w'.cell? ⟨q, 8, none⟩ = some (.int .i64 r.h.bytes) ∧ w'.cell? ⟨q, 9, none⟩ = some (.int .i64 r.h.block) ∧ w'.cell? ⟨q, 10, none⟩ = some (.int .i64 r.s.id) ∧ w'.cell? ⟨q, 11, none⟩ = some (.slice B nb cb) ∧ w'.cell? ⟨q, 12, none⟩ = some (.slice B2 nb2 cb2)) := fun w' hf => ⟨(hf.cell (World.block_lt_of_cell? w6 _ bp0)).trans bp0, (hf.cell (World.block_lt_of_cell? w6 _ bp1)).trans bp1, (hf.cell (World.block_lt_of_cell? w6 _ bp2)).trans bp2, (hf.cell (World.block_lt_of_cell? w6 _ bp3)).trans bp3, (hf.cell (World.block_lt_of_cell? w6 _ bx0)).trans bx0, (hf.cell (World.block_lt_of_cell? w6 _ bx1)).trans bx1, (hf.cell (World.block_lt_of_cell? w6 _ bx2)).trans bx2, (hf.cell (World.block_lt_of_cell? w6 _ bx3)).trans bx3, (hf.cell (World.block_lt_of_cell? w6 _ bx4)).trans bx4, (hf.cell (World.block_lt_of_cell? w6 _ bx5)).trans bx5, (hf.cell (World.block_lt_of_cell? w6 _ bx6)).trans bx6, (hf.cell (World.block_lt_of_cell? w6 _ bx7)).trans bx7, (hf.cell (World.block_lt_of_cell? w6 _ bx8)).trans bx8, (hf.cell (World.block_lt_of_cell? w6 _ bx9)).trans bx9, (hf.cell (World.block_lt_of_cell? w6 _ bx10)).trans bx10, (hf.cell (World.block_lt_of_cell? w6 _ bx11)).trans bx11, (hf.cell (World.block_lt_of_cell? w6 _ bx12)).trans bx12⟩
    clear bp0 bp1 bp2 bp3 bx1 bx2 bx3 bx4 bx5 bx6 bx7 bx8 bx9 bx10 bx11 bx12
    go_upto_region 16 with fail
    clear bx0
    refine held_begin (n := 7) (bs := #[false, false, false, false, false, false, false]) rfl rfl (by kernel_rfl) (S := fun w' => w'.cell? ⟨pb, 0, none⟩ = some (.int .i64 p.me) ∧ w'.cell? ⟨pb, 1, none⟩ = some (.slice (some ⟨g, 0, none⟩) l.length cap) ∧ w'.cell? ⟨pb, 2, none⟩ = some (.int .i64 p.time) ∧ w'.cell? ⟨pb, 3, none⟩ = some (.int .i64 p.seq) ∧ w'.cell? ⟨q, 0, none⟩ = some (.int .i64 3) ∧ w'.cell? ⟨q, 1, none⟩ = some (.int .i64 r.place) ∧ w'.cell? ⟨q, 2, none⟩ = some (.int .i64 r.n) ∧ w'.cell? ⟨q, 3, none⟩ = some (.int .i64 r.try_) ∧ w'.cell? ⟨q, 4, none⟩ = some (.int .i64 r.h.frm) ∧ w'.cell? ⟨q, 5, none⟩ = some (.int .i64 r.h.seq) ∧ w'.cell? ⟨q, 6, none⟩ = some (.int .i64 r.h.to) ∧ w'.cell? ⟨q, 7, none⟩ = some (.int .i64 r.h.till) ∧ w'.cell? ⟨q, 8, none⟩ = some (.int .i64 r.h.bytes) ∧ w'.cell? ⟨q, 9, none⟩ = some (.int .i64 r.h.block) ∧ w'.cell? ⟨q, 10, none⟩ = some (.int .i64 r.s.id) ∧ w'.cell? ⟨q, 11, none⟩ = some (.slice B nb cb) ∧ w'.cell? ⟨q, 12, none⟩ = some (.slice B2 nb2 cb2)) (hSC.out _ (Below.refl _ _).drew) (fun hHeld => ?_)
    ((first | refine held_sk (i := 0) ?_ | refine held_tk (i := 0) ?_); (first | refine held_sk (i := 1) ?_ | refine held_tk (i := 1) ?_); (first | refine held_sk (i := 2) ?_ | refine held_tk (i := 2) ?_); (first | refine held_sk (i := 3) ?_ | refine held_tk (i := 3) ?_); (first | refine held_sk (i := 4) ?_ | refine held_tk (i := 4) ?_))
    refine held_one (i := 5) rfl (by kernel_rfl) (fun K hK => ?_)
    go_simp
    go_at_call 112
    (with_reducible refine (SH.out).mono ?_)
    rintro e w7 hpost
    have hpost2 : FocPost T w6 base g cap l i Ac nc cc vS vT (elemF p.me x r) e w7 := by
      rw [show elemF p.me x r = deliverF p.me x r from by unfold elemF; rw [if_neg (by rw [hkr]; decide), if_pos hkr]]
      exact ⟨hpost.1, (Chg.refl (FocS g vS vT) w6).drew.trans hpost.2.1, hpost.2.2⟩
    have hcell : ∀ b o v, (b = pb ∨ b = q) → w6.cell? ⟨b, o, none⟩ = some v → w7.cell? ⟨b, o, none⟩ = some v := fun b o v hb hv => by
      refine (hpost2.2.1.cell (p := ⟨b, o, none⟩) (World.block_lt_of_cell? w6 _ hv) ?_).trans hv
      show ¬ FocS g vS vT b
      intro hf
      rcases hb with rfl | rfl
      · rcases hf with hf | hf | hf
        · have := HFO.out.foc.hbg; omega
        · have := (HFO.out.foc.syms.ge hf).1; omega
        · have := (HFO.out.foc.took.ge hf).1; omega
      · rcases hf with hf | hf | hf
        · obtain ⟨cs0, rest0, hg0, _⟩ := HFO.out.foc.blk
          have hq0 := HQ6.out
          rw [hf, hg0] at hq0
          injection hq0 with hq0
          injection hq0 with _ hq0
          exact absurd hq0 (by decide)
        · exact HFO.out.foc.syms.notBlk HQ6.out (by decide) hf rfl
        · exact HFO.out.foc.took.notBlk HQ6.out (by decide) hf rfl
    have hS7 : w7.cell? ⟨pb, 0, none⟩ = some (.int .i64 p.me) ∧ w7.cell? ⟨pb, 1, none⟩ = some (.slice (some ⟨g, 0, none⟩) l.length cap) ∧ w7.cell? ⟨pb, 2, none⟩ = some (.int .i64 p.time) ∧ w7.cell? ⟨pb, 3, none⟩ = some (.int .i64 p.seq) ∧ w7.cell? ⟨q, 0, none⟩ = some (.int .i64 3) ∧ w7.cell? ⟨q, 1, none⟩ = some (.int .i64 r.place) ∧ w7.cell? ⟨q, 2, none⟩ = some (.int .i64 r.n) ∧ w7.cell? ⟨q, 3, none⟩ = some (.int .i64 r.try_) ∧ w7.cell? ⟨q, 4, none⟩ = some (.int .i64 r.h.frm) ∧ w7.cell? ⟨q, 5, none⟩ = some (.int .i64 r.h.seq) ∧ w7.cell? ⟨q, 6, none⟩ = some (.int .i64 r.h.to) ∧ w7.cell? ⟨q, 7, none⟩ = some (.int .i64 r.h.till) ∧ w7.cell? ⟨q, 8, none⟩ = some (.int .i64 r.h.bytes) ∧ w7.cell? ⟨q, 9, none⟩ = some (.int .i64 r.h.block) ∧ w7.cell? ⟨q, 10, none⟩ = some (.int .i64 r.s.id) ∧ w7.cell? ⟨q, 11, none⟩ = some (.slice B nb cb) ∧ w7.cell? ⟨q, 12, none⟩ = some (.slice B2 nb2 cb2) := by
      obtain ⟨k0, k1, k2, k3, k4, k5, k6, k7, k8, k9, k10, k11, k12, k13, k14, k15, k16⟩ := hSC.out w6 (Below.refl _ _)
      exact ⟨hcell pb 0 _ (.inl rfl) k0, hcell pb 1 _ (.inl rfl) k1, hcell pb 2 _ (.inl rfl) k2, hcell pb 3 _ (.inl rfl) k3, hcell q 0 _ (.inr rfl) k4, hcell q 1 _ (.inr rfl) k5, hcell q 2 _ (.inr rfl) k6, hcell q 3 _ (.inr rfl) k7, hcell q 4 _ (.inr rfl) k8, hcell q 5 _ (.inr rfl) k9, hcell q 6 _ (.inr rfl) k10, hcell q 7 _ (.inr rfl) k11, hcell q 8 _ (.inr rfl) k12, hcell q 9 _ (.inr rfl) k13, hcell q 10 _ (.inr rfl) k14, hcell q 11 _ (.inr rfl) k15, hcell q 12 _ (.inr rfl) k16⟩
    obtain ⟨ev, hev⟩ : ∃ ev, ev = (elemF p.me x r).2 := ⟨_, rfl⟩
    have hee := hpost2.1
    rw [← hev] at hee
    have HE7 := HEL.out _ _ hpost2
    rw [hee] at HE7
    subst hee
    have HE8 := Lib.hid HE7
    clear HE7 hpost hpost2 hcell hev HEL HFO HBD6 HBC6 SH HBK hxk
    (refine held_back hK (a' := ?hA2) (l' := ?hL2) ?ha2 ?hl2 (hS7) (fun hHeld => ?hh2); (case ha2 => first | with_reducible rfl | (simp only [Act.put, hq1, hq2, hq3, Option.isNone, Bool.not_true, Bool.not_false]; (try with_reducible rfl))); (case hl2 => (simp only [Act.put, hq1, hq2, hq3, Option.isNone, Bool.not_true, Bool.not_false]; (try with_reducible rfl))); clear hK K)
    ((first | refine held_sk (i := 6) ?_ | refine held_tk (i := 6) ?_))
    refine wpAnyH_done (by kernel_rfl) ?_ _
    clear hSC hHeld hS7
    go_wp2_with fail
    go_ret
    exact HE8.out
  · skip
    have hkr : r.kind = 4 := HKD.out.symm
    go_upto_region 1 with fail
    obtain ⟨W1, hW1⟩ : ∃ W1, W1 = w.alloc (.cells #[.int .i64 4, .int .i64 r.place, .int .i64 r.n, .int .i64 r.try_, .int .i64 r.h.frm, .int .i64 r.h.seq, .int .i64 r.h.to, .int .i64 r.h.till, .int .i64 r.h.bytes, .int .i64 r.h.block, .int .i64 r.s.id, .slice B nb cb, .slice B2 nb2 cb2] 40) := ⟨_, rfl⟩
    obtain ⟨q, hq⟩ : ∃ q, q = w.heap.size := ⟨_, rfl⟩
    have HQ1 : Hid (W1.heap[q]? = some (.cells #[.int .i64 4, .int .i64 r.place, .int .i64 r.n, .int .i64 r.try_, .int .i64 r.h.frm, .int .i64 r.h.seq, .int .i64 r.h.to, .int .i64 r.h.till, .int .i64 r.h.bytes, .int .i64 r.h.block, .int .i64 r.s.id, .slice B nb cb, .slice B2 nb2 cb2] 40 (0, 0))) := by rw [hW1]; exact heap_new hq
    have HF1 : Hid (Fr w W1) := by rw [hW1]; exact frAlloc _ _
    rw [← hW1, ← hq]
    have HQW : Hid (q = w.heap.size) := hq
    clear hW1 hq
    have hbx := (H.out.fr HF1.out).blk
    have hqx := HQ1.out
    (obtain ⟨bp0, bp1, bp2, bp3⟩ := box4_ hbx)
    (obtain ⟨bx0, bx1, bx2, bx3, bx4, bx5, bx6, bx7, bx8, bx9, bx10, bx11, bx12⟩ := box13_ hqx)
    clear hbx hqx
    have hSC : Hid (∀ w', Fr W1 w' → w'.cell? ⟨pb, 0, none⟩ = some (.int .i64 p.me) ∧ w'.cell? ⟨pb, 1, none⟩ = some (.slice A p.keep.length c) ∧ w'.cell? ⟨pb, 2, none⟩ = some (.int .i64 p.time) ∧ w'.cell? ⟨pb, 3, none⟩ = some (.int .i64 p.seq) ∧ w'.cell? ⟨q, 4, none⟩ = some (.int .i64 r.h.frm) ∧ w'.cell? ⟨q, 5, none⟩ = some (.int .i64 r.h.seq)) := fun w' hf => ⟨(hf.cell (World.block_lt_of_cell? W1 _ bp0)).trans bp0, (hf.cell (World.block_lt_of_cell? W1 _ bp1)).trans bp1, (hf.cell (World.block_lt_of_cell? W1 _ bp2)).trans bp2, (hf.cell (World.block_lt_of_cell? W1 _ bp3)).trans bp3, (hf.cell (World.block_lt_of_cell? W1 _ bx4)).trans bx4, (hf.cell (World.block_lt_of_cell? W1 _ bx5)).trans bx5⟩
    obtain ⟨kf, hkf⟩ : ∃ kf, kf = findF p.keep r.h.frm r.h.seq := ⟨_, rfl⟩
    have FD : Hid (∀ W, Fr w W → Calls Tryz.prog 42 #[.agg #[.int .i64 p.me, .slice A p.keep.length c, .int .i64 p.time, .int .i64 p.seq], .int .i64 r.h.frm, .int .i64 r.h.seq] W fun e w' => e = .returned (.int .i64 kf) ∧ Fr W w') := fun W hf => by
      rw [hkf]
      obtain ⟨A9, c9, e9, ⟨hc9, hm9⟩, hsl⟩ := (((H.out.fr hf).plM.own).ofHi sKp).slC sKp (by decide)
      injection e9 with e9 _ e10
      subst e9 e10
      exact keepFind_any W p.me p.time p.seq A _ c p.keep r.h.frm r.h.seq hsl (by unfold maxLen; omega)
    have HKF := Lib.hid hkf
    clear hkf
    go_upto_region 7 with fail
    clear bp0 bp1 bp2 bp3 bx0 bx1 bx2 bx3 bx4 bx5 bx6 bx7 bx8 bx9 bx10 bx11 bx12
    refine held_begin (n := 11) (bs := #[false, false, false, false, false, false, false, false, false, false, false]) rfl rfl (by kernel_rfl) (S := fun w' => w'.cell? ⟨pb, 0, none⟩ = some (.int .i64 p.me) ∧ w'.cell? ⟨pb, 1, none⟩ = some (.slice A p.keep.length c) ∧ w'.cell? ⟨pb, 2, none⟩ = some (.int .i64 p.time) ∧ w'.cell? ⟨pb, 3, none⟩ = some (.int .i64 p.seq) ∧ w'.cell? ⟨q, 4, none⟩ = some (.int .i64 r.h.frm) ∧ w'.cell? ⟨q, 5, none⟩ = some (.int .i64 r.h.seq)) (hSC.out _ (Below.refl _ _).drew) (fun hHeld => ?_)
    ((first | refine held_sk (i := 0) ?_ | refine held_tk (i := 0) ?_); (first | refine held_sk (i := 1) ?_ | refine held_tk (i := 1) ?_); (first | refine held_sk (i := 2) ?_ | refine held_tk (i := 2) ?_); (first | refine held_sk (i := 3) ?_ | refine held_tk (i := 3) ?_); (first | refine held_sk (i := 4) ?_ | refine held_tk (i := 4) ?_); (first | refine held_sk (i := 5) ?_ | refine held_tk (i := 5) ?_); (first | refine held_sk (i := 6) ?_ | refine held_tk (i := 6) ?_); (first | refine held_sk (i := 7) ?_ | refine held_tk (i := 7) ?_); (first | refine held_sk (i := 8) ?_ | refine held_tk (i := 8) ?_))
    refine held_one (i := 9) rfl (by kernel_rfl) (fun K hK => ?_)
    go_simp
    go_at_call 42
    (with_reducible refine (FD.out _ (HF1.out.trans (Below.refl _ _).drew)).mono ?_)
    rintro e w5 ⟨rfl, hf5⟩
    have HF15 : Hid (Fr W1 w5) := Fr.trans (Below.refl _ _).drew hf5
    (refine held_back hK (a' := ?hA3) (l' := ?hL3) ?ha3 ?hl3 (hSC.out _ HF15.out) (fun hHeld => ?hh3); (case ha3 => first | with_reducible rfl | (simp only [Act.put, hq1, hq2, hq3, Option.isNone, Bool.not_true, Bool.not_false]; (try with_reducible rfl))); (case hl3 => (simp only [Act.put, hq1, hq2, hq3, Option.isNone, Bool.not_true, Bool.not_false]; (try with_reducible rfl))); clear hK K)
    ((first | refine held_sk (i := 10) ?_ | refine held_tk (i := 10) ?_))
    refine wpAnyH_done (by kernel_rfl) ?_ _
    clear hf5 hSC hHeld FD
    obtain ⟨WB, hWB⟩ : ∃ WB, WB = w5 := ⟨_, rfl⟩
    rw [← hWB] at HF15 ⊢
    clear hWB
    have HFB : Hid (Fr w WB) := HF1.out.trans HF15.out
    have HQB := Lib.hid (blk_go HQ1.out HF15.out)
    by_cases hk0 : kf < 0
    · have hfn : findAt r.h.frm r.h.seq p.keep = none := by
        have h1 := HKF.out
        unfold findF at h1
        cases hf : findAt r.h.frm r.h.seq p.keep with
        | none => rfl
        | some i => rw [hf] at h1; dsimp only at h1; omega
      have E5 : Hid (stepF p r = (p, 5)) := by
        unfold stepF Hid
        rw [if_neg (by rw [hkr]; decide), if_neg (by rw [hkr]; decide), if_pos ⟨by rw [hkr]; decide, hfn⟩]
      have t0 : decide (kf < 0) = true := by simp [hk0]
      clear hk0 hfn
      simp only [t0]
      go_wp2_with fail
      go_ret
      exact next_err (by decide) HFB.out.chg E5.out
    have t0 : decide (kf < 0) = false := by simp; omega
    simp only [t0]
    have hfs : findAt r.h.frm r.h.seq p.keep ≠ none := fun hf => by
      have h1 := HKF.out
      unfold findF at h1
      rw [hf] at h1
      dsimp only at h1
      omega
    clear hk0
    have hbx := (H.out.fr HFB.out).blk
    have hqx := HQB.out
    (obtain ⟨bp0, bp1, bp2, bp3⟩ := box4_ hbx)
    (obtain ⟨bx0, bx1, bx2, bx3, bx4, bx5, bx6, bx7, bx8, bx9, bx10, bx11, bx12⟩ := box13_ hqx)
    clear hbx hqx
    have EB := Lib.hid (stepF_bun (p := p) (r := r) (by rw [hkr]; decide) (by rw [hkr]; decide) (fun _ => hfs))
    go_upto_region 9 with fail
    go_wp2_with fail
    with_reducible refine (bundle_any WB base pb p A c lo (H.out.fr HFB.out) h12 r.h hwh (Nat.le_trans hbw HFB.out.size)).mono ?_
    rintro e w6 hbun
    have hown : ∀ b, (Value.slice A p.keep.length c).ownBlock = some b → base ≤ b ∧ b < w.heap.size := fun b hb => (H.out.plM.own).ge hb
    rcases hbun with ⟨rfl, hne, hch, hpl5⟩ | ⟨l, i, x, g, cap, Ac, nc, cc, vS, vT, T, hbe, rfl, hch, hbk, hfo⟩
    · obtain ⟨be, hbe⟩ : ∃ be, be = (bundleF p r.h).2 := ⟨_, rfl⟩
      have E5 : Hid (stepF p r = (p, be)) := by rw [hbe]; exact EB.out.trans (if_pos hne)
      rw [← hbe] at hne ⊢
      have t0 : (be != 0) = true := by simp [hne]
      have HB6 : Hid (Chg (PlS base pb) w w6) := by
        have q1 : Chg (PlS base pb) w WB := HFB.out.chg
        have q2 : Chg (PlS base pb) WB w6 := hch.more fun b hb => by
          rcases hb with hb | hb
          · exact .inl hb
          · exact .inr (hown b hb).1
        exact q1.trans q2
      have HNE := Lib.hid hne
      clear hbe hch hpl5 hne EB bp0 bp1 bp2 bp3 bx0 bx1 bx2 bx3 bx4 bx5 bx6 bx7 bx8 bx9 bx10 bx11 bx12
      go_wp2_with fail
      go_ret
      exact next_err HNE.out HB6.out E5.out
    clear bp0 bp1 bp2 bp3 bx0 bx1 bx2 bx3 bx4 bx5 bx6 bx7 bx8 bx9 bx10 bx11 bx12
    have hch6 : Chg (BunS pb (.slice A p.keep.length c)) w w6 := HFB.out.chg.trans hch
    have hnq : ¬ BunS pb (.slice A p.keep.length c) q := fun hb => by
      have := HQW.out
      rcases hb with hb | hb
      · omega
      · have := hown _ hb; omega
    have HQ6 := Lib.hid (hch.blk HQB.out hnq)
    have HBK := Lib.hid hbk
    have HFO := Lib.hid hfo
    have HEL : Hid (∀ e w7, FocPost T w6 base g cap l i Ac nc cc vS vT (elemF p.me x r) e w7 → NextPost w base pb p r e w7) := fun e w7 hp => next_elem hpb hbw (fun b hb => (hown b hb).1) hch6 hbk hfo hbe EB.out hp
    have hxk : KpOk x p.me p.time := (bundleF_ok hok (hro.head (by rw [hkr]; decide)) hbe).ok
    have hSd : ∀ b, S b → b < w.heap.size ∧ ¬ BunS pb (.slice A p.keep.length c) b := fun b hb => ⟨Nat.lt_trans (hS b hb) hpl, fun h => by
      have := hS b hb
      rcases h with h | h
      · omega
      · have := hown _ h; omega⟩
    have HBD6 : Hid (Byt w6 (LT w6.heap.size) B nb cb r.s.data) := ⟨HBS.out.1, (HBS.out.2.keep sByte fun a ha => hch6.cell (hSd _ ha).1 (hSd _ ha).2).more sByte fun b hb => Nat.lt_of_lt_of_le (hSd b hb).1 hch6.size⟩
    have HBC6 : Hid (Byt w6 (LT w6.heap.size) B2 nb2 cb2 r.cargo) := ⟨HCS.out.1, (HCS.out.2.keep sByte fun a ha => hch6.cell (hSd _ ha).1 (hSd _ ha).2).more sByte fun b hb => Nat.lt_of_lt_of_le (hSd b hb).1 hch6.size⟩
    have hbx := HBK.out
    have hqx := HQ6.out
    (obtain ⟨bp0, bp1, bp2, bp3⟩ := box4_ hbx)
    (obtain ⟨bx0, bx1, bx2, bx3, bx4, bx5, bx6, bx7, bx8, bx9, bx10, bx11, bx12⟩ := box13_ hqx)
    clear hbx hqx hbk hfo hbe hch hch6 hnq hown EB
    have SH := Lib.hid (share_any w6.drew T base g cap l i x Ac nc cc vS vT (HFO.out.fr (Below.refl _ _).drew) p.me p.time p.seq (some ⟨g, 0, none⟩) l.length cap r B nb cb B2 nb2 cb2 (by rw [hkr]; decide) ⟨hro.place, hro.try_, hro.n⟩ ⟨hxk.shares, hxk.try_⟩)
    rw [hkr] at SH
    have hSC : Hid (∀ w', Fr w6 w' → w'.cell? ⟨pb, 0, none⟩ = some (.int .i64 p.me) ∧ w'.cell? ⟨pb, 1, none⟩ = some (.slice (some ⟨g, 0, none⟩) l.length cap) ∧ w'.cell? ⟨pb, 2, none⟩ = some (.int .i64 p.time) ∧ w'.cell? ⟨pb, 3, none⟩ = some (.int .i64 p.seq) ∧ w'.cell? ⟨q, 0, none⟩ = some (.int .i64 4) ∧ w'.cell? ⟨q, 1, none⟩ = some (.int .i64 r.place) ∧ w'.cell? ⟨q, 2, none⟩ = some (.int .i64 r.n) ∧ w'.cell? ⟨q, 3, none⟩ = some (.int .i64 r.try_) ∧ w'.cell? ⟨q, 4, none⟩ = some (.int .i64 r.h.frm) ∧ w'.cell? ⟨q, 5, none⟩ = some (.int .i64 r.h.seq) ∧ w'.cell? ⟨q, 6, none⟩ = some (.int .i64 r.h.to) ∧ w'.cell? ⟨q, 7, none⟩ = some (.int .i64 r.h.till) ∧ w'.cell? ⟨q, 8, none⟩ = some (.int .i64 r.h.bytes) ∧ w'.cell? ⟨q, 9, none⟩ = some (.int .i64 r.h.block) ∧ w'.cell? ⟨q, 10, none⟩ = some (.int .i64 r.s.id) ∧ w'.cell? ⟨q, 11, none⟩ = some (.slice B nb cb) ∧ w'.cell? ⟨q, 12, none⟩ = some (.slice B2 nb2 cb2)) := fun w' hf => ⟨(hf.cell (World.block_lt_of_cell? w6 _ bp0)).trans bp0, (hf.cell (World.block_lt_of_cell? w6 _ bp1)).trans bp1, (hf.cell (World.block_lt_of_cell? w6 _ bp2)).trans bp2, (hf.cell (World.block_lt_of_cell? w6 _ bp3)).trans bp3, (hf.cell (World.block_lt_of_cell? w6 _ bx0)).trans bx0, (hf.cell (World.block_lt_of_cell? w6 _ bx1)).trans bx1, (hf.cell (World.block_lt_of_cell? w6 _ bx2)).trans bx2, (hf.cell (World.block_lt_of_cell? w6 _ bx3)).trans bx3, (hf.cell (World.block_lt_of_cell? w6 _ bx4)).trans bx4, (hf.cell (World.block_lt_of_cell? w6 _ bx5)).trans bx5, (hf.cell (World.block_lt_of_cell? w6 _ bx6)).trans bx6, (hf.cell (World.block_lt_of_cell? w6 _ bx7)).trans bx7, (hf.cell (World.block_lt_of_cell? w6 _ bx8)).trans bx8, (hf.cell (World.block_lt_of_cell? w6 _ bx9)).trans bx9, (hf.cell (World.block_lt_of_cell? w6 _ bx10)).trans bx10, (hf.cell (World.block_lt_of_cell? w6 _ bx11)).trans bx11, (hf.cell (World.block_lt_of_cell? w6 _ bx12)).trans bx12⟩
    clear bp0 bp1 bp2 bp3 bx1 bx2 bx3 bx4 bx5 bx6 bx7 bx8 bx9 bx10 bx11 bx12
    go_upto_region 23 with fail
    clear bx0
    refine held_begin (n := 7) (bs := #[false, false, false, false, false, false, false]) rfl rfl (by kernel_rfl) (S := fun w' => w'.cell? ⟨pb, 0, none⟩ = some (.int .i64 p.me) ∧ w'.cell? ⟨pb, 1, none⟩ = some (.slice (some ⟨g, 0, none⟩) l.length cap) ∧ w'.cell? ⟨pb, 2, none⟩ = some (.int .i64 p.time) ∧ w'.cell? ⟨pb, 3, none⟩ = some (.int .i64 p.seq) ∧ w'.cell? ⟨q, 0, none⟩ = some (.int .i64 4) ∧ w'.cell? ⟨q, 1, none⟩ = some (.int .i64 r.place) ∧ w'.cell? ⟨q, 2, none⟩ = some (.int .i64 r.n) ∧ w'.cell? ⟨q, 3, none⟩ = some (.int .i64 r.try_) ∧ w'.cell? ⟨q, 4, none⟩ = some (.int .i64 r.h.frm) ∧ w'.cell? ⟨q, 5, none⟩ = some (.int .i64 r.h.seq) ∧ w'.cell? ⟨q, 6, none⟩ = some (.int .i64 r.h.to) ∧ w'.cell? ⟨q, 7, none⟩ = some (.int .i64 r.h.till) ∧ w'.cell? ⟨q, 8, none⟩ = some (.int .i64 r.h.bytes) ∧ w'.cell? ⟨q, 9, none⟩ = some (.int .i64 r.h.block) ∧ w'.cell? ⟨q, 10, none⟩ = some (.int .i64 r.s.id) ∧ w'.cell? ⟨q, 11, none⟩ = some (.slice B nb cb) ∧ w'.cell? ⟨q, 12, none⟩ = some (.slice B2 nb2 cb2)) (hSC.out _ (Below.refl _ _).drew) (fun hHeld => ?_)
    ((first | refine held_sk (i := 0) ?_ | refine held_tk (i := 0) ?_); (first | refine held_sk (i := 1) ?_ | refine held_tk (i := 1) ?_); (first | refine held_sk (i := 2) ?_ | refine held_tk (i := 2) ?_); (first | refine held_sk (i := 3) ?_ | refine held_tk (i := 3) ?_); (first | refine held_sk (i := 4) ?_ | refine held_tk (i := 4) ?_))
    refine held_one (i := 5) rfl (by kernel_rfl) (fun K hK => ?_)
    go_simp
    go_at_call 114
    (with_reducible refine (SH.out).mono ?_)
    rintro e w7 hpost
    have hpost2 : FocPost T w6 base g cap l i Ac nc cc vS vT (elemF p.me x r) e w7 := by
      rw [show elemF p.me x r = shareF p.me x r from by unfold elemF; rw [if_neg (by rw [hkr]; decide), if_neg (by rw [hkr]; decide), if_neg (by rw [hkr]; decide)]]
      exact ⟨hpost.1, (Chg.refl (FocS g vS vT) w6).drew.trans hpost.2.1, hpost.2.2⟩
    have hcell : ∀ b o v, (b = pb ∨ b = q) → w6.cell? ⟨b, o, none⟩ = some v → w7.cell? ⟨b, o, none⟩ = some v := fun b o v hb hv => by
      refine (hpost2.2.1.cell (p := ⟨b, o, none⟩) (World.block_lt_of_cell? w6 _ hv) ?_).trans hv
      show ¬ FocS g vS vT b
      intro hf
      rcases hb with rfl | rfl
      · rcases hf with hf | hf | hf
        · have := HFO.out.foc.hbg; omega
        · have := (HFO.out.foc.syms.ge hf).1; omega
        · have := (HFO.out.foc.took.ge hf).1; omega
      · rcases hf with hf | hf | hf
        · obtain ⟨cs0, rest0, hg0, _⟩ := HFO.out.foc.blk
          have hq0 := HQ6.out
          rw [hf, hg0] at hq0
          injection hq0 with hq0
          injection hq0 with _ hq0
          exact absurd hq0 (by decide)
        · exact HFO.out.foc.syms.notBlk HQ6.out (by decide) hf rfl
        · exact HFO.out.foc.took.notBlk HQ6.out (by decide) hf rfl
    have hS7 : w7.cell? ⟨pb, 0, none⟩ = some (.int .i64 p.me) ∧ w7.cell? ⟨pb, 1, none⟩ = some (.slice (some ⟨g, 0, none⟩) l.length cap) ∧ w7.cell? ⟨pb, 2, none⟩ = some (.int .i64 p.time) ∧ w7.cell? ⟨pb, 3, none⟩ = some (.int .i64 p.seq) ∧ w7.cell? ⟨q, 0, none⟩ = some (.int .i64 4) ∧ w7.cell? ⟨q, 1, none⟩ = some (.int .i64 r.place) ∧ w7.cell? ⟨q, 2, none⟩ = some (.int .i64 r.n) ∧ w7.cell? ⟨q, 3, none⟩ = some (.int .i64 r.try_) ∧ w7.cell? ⟨q, 4, none⟩ = some (.int .i64 r.h.frm) ∧ w7.cell? ⟨q, 5, none⟩ = some (.int .i64 r.h.seq) ∧ w7.cell? ⟨q, 6, none⟩ = some (.int .i64 r.h.to) ∧ w7.cell? ⟨q, 7, none⟩ = some (.int .i64 r.h.till) ∧ w7.cell? ⟨q, 8, none⟩ = some (.int .i64 r.h.bytes) ∧ w7.cell? ⟨q, 9, none⟩ = some (.int .i64 r.h.block) ∧ w7.cell? ⟨q, 10, none⟩ = some (.int .i64 r.s.id) ∧ w7.cell? ⟨q, 11, none⟩ = some (.slice B nb cb) ∧ w7.cell? ⟨q, 12, none⟩ = some (.slice B2 nb2 cb2) := by
      obtain ⟨k0, k1, k2, k3, k4, k5, k6, k7, k8, k9, k10, k11, k12, k13, k14, k15, k16⟩ := hSC.out w6 (Below.refl _ _)
      exact ⟨hcell pb 0 _ (.inl rfl) k0, hcell pb 1 _ (.inl rfl) k1, hcell pb 2 _ (.inl rfl) k2, hcell pb 3 _ (.inl rfl) k3, hcell q 0 _ (.inr rfl) k4, hcell q 1 _ (.inr rfl) k5, hcell q 2 _ (.inr rfl) k6, hcell q 3 _ (.inr rfl) k7, hcell q 4 _ (.inr rfl) k8, hcell q 5 _ (.inr rfl) k9, hcell q 6 _ (.inr rfl) k10, hcell q 7 _ (.inr rfl) k11, hcell q 8 _ (.inr rfl) k12, hcell q 9 _ (.inr rfl) k13, hcell q 10 _ (.inr rfl) k14, hcell q 11 _ (.inr rfl) k15, hcell q 12 _ (.inr rfl) k16⟩
    obtain ⟨ev, hev⟩ : ∃ ev, ev = (elemF p.me x r).2 := ⟨_, rfl⟩
    have hee := hpost2.1
    rw [← hev] at hee
    have HE7 := HEL.out _ _ hpost2
    rw [hee] at HE7
    subst hee
    have HE8 := Lib.hid HE7
    clear HE7 hpost hpost2 hcell hev HEL HFO HBD6 HBC6 SH HBK hxk
    (refine held_back hK (a' := ?hA4) (l' := ?hL4) ?ha4 ?hl4 (hS7) (fun hHeld => ?hh4); (case ha4 => first | with_reducible rfl | (simp only [Act.put, hq1, hq2, hq3, Option.isNone, Bool.not_true, Bool.not_false]; (try with_reducible rfl))); (case hl4 => (simp only [Act.put, hq1, hq2, hq3, Option.isNone, Bool.not_true, Bool.not_false]; (try with_reducible rfl))); clear hK K)
    ((first | refine held_sk (i := 6) ?_ | refine held_tk (i := 6) ?_))
    refine wpAnyH_done (by kernel_rfl) ?_ _
    clear hSC hHeld hS7
    go_wp2_with fail
    go_ret
    exact HE8.out
  · skip
    have hkr : r.kind = 5 := HKD.out.symm
    go_upto_region 1 with fail
    obtain ⟨W1, hW1⟩ : ∃ W1, W1 = w.alloc (.cells #[.int .i64 5, .int .i64 r.place, .int .i64 r.n, .int .i64 r.try_, .int .i64 r.h.frm, .int .i64 r.h.seq, .int .i64 r.h.to, .int .i64 r.h.till, .int .i64 r.h.bytes, .int .i64 r.h.block, .int .i64 r.s.id, .slice B nb cb, .slice B2 nb2 cb2] 40) := ⟨_, rfl⟩
    obtain ⟨q, hq⟩ : ∃ q, q = w.heap.size := ⟨_, rfl⟩
    have HQ1 : Hid (W1.heap[q]? = some (.cells #[.int .i64 5, .int .i64 r.place, .int .i64 r.n, .int .i64 r.try_, .int .i64 r.h.frm, .int .i64 r.h.seq, .int .i64 r.h.to, .int .i64 r.h.till, .int .i64 r.h.bytes, .int .i64 r.h.block, .int .i64 r.s.id, .slice B nb cb, .slice B2 nb2 cb2] 40 (0, 0))) := by rw [hW1]; exact heap_new hq
    have HF1 : Hid (Fr w W1) := by rw [hW1]; exact frAlloc _ _
    rw [← hW1, ← hq]
    have HQW : Hid (q = w.heap.size) := hq
    clear hW1 hq
    have hbx := (H.out.fr HF1.out).blk
    have hqx := HQ1.out
    (obtain ⟨bp0, bp1, bp2, bp3⟩ := box4_ hbx)
    (obtain ⟨bx0, bx1, bx2, bx3, bx4, bx5, bx6, bx7, bx8, bx9, bx10, bx11, bx12⟩ := box13_ hqx)
    clear hbx hqx
    have hSC : Hid (∀ w', Fr W1 w' → w'.cell? ⟨pb, 0, none⟩ = some (.int .i64 p.me) ∧ w'.cell? ⟨pb, 1, none⟩ = some (.slice A p.keep.length c) ∧ w'.cell? ⟨pb, 2, none⟩ = some (.int .i64 p.time) ∧ w'.cell? ⟨pb, 3, none⟩ = some (.int .i64 p.seq) ∧ w'.cell? ⟨q, 4, none⟩ = some (.int .i64 r.h.frm) ∧ w'.cell? ⟨q, 5, none⟩ = some (.int .i64 r.h.seq)) := fun w' hf => ⟨(hf.cell (World.block_lt_of_cell? W1 _ bp0)).trans bp0, (hf.cell (World.block_lt_of_cell? W1 _ bp1)).trans bp1, (hf.cell (World.block_lt_of_cell? W1 _ bp2)).trans bp2, (hf.cell (World.block_lt_of_cell? W1 _ bp3)).trans bp3, (hf.cell (World.block_lt_of_cell? W1 _ bx4)).trans bx4, (hf.cell (World.block_lt_of_cell? W1 _ bx5)).trans bx5⟩
    obtain ⟨kf, hkf⟩ : ∃ kf, kf = findF p.keep r.h.frm r.h.seq := ⟨_, rfl⟩
    have FD : Hid (∀ W, Fr w W → Calls Tryz.prog 42 #[.agg #[.int .i64 p.me, .slice A p.keep.length c, .int .i64 p.time, .int .i64 p.seq], .int .i64 r.h.frm, .int .i64 r.h.seq] W fun e w' => e = .returned (.int .i64 kf) ∧ Fr W w') := fun W hf => by
      rw [hkf]
      obtain ⟨A9, c9, e9, ⟨hc9, hm9⟩, hsl⟩ := (((H.out.fr hf).plM.own).ofHi sKp).slC sKp (by decide)
      injection e9 with e9 _ e10
      subst e9 e10
      exact keepFind_any W p.me p.time p.seq A _ c p.keep r.h.frm r.h.seq hsl (by unfold maxLen; omega)
    have HKF := Lib.hid hkf
    clear hkf
    go_upto_region 7 with fail
    clear bp0 bp1 bp2 bp3 bx0 bx1 bx2 bx3 bx4 bx5 bx6 bx7 bx8 bx9 bx10 bx11 bx12
    refine held_begin (n := 11) (bs := #[false, false, false, false, false, false, false, false, false, false, false]) rfl rfl (by kernel_rfl) (S := fun w' => w'.cell? ⟨pb, 0, none⟩ = some (.int .i64 p.me) ∧ w'.cell? ⟨pb, 1, none⟩ = some (.slice A p.keep.length c) ∧ w'.cell? ⟨pb, 2, none⟩ = some (.int .i64 p.time) ∧ w'.cell? ⟨pb, 3, none⟩ = some (.int .i64 p.seq) ∧ w'.cell? ⟨q, 4, none⟩ = some (.int .i64 r.h.frm) ∧ w'.cell? ⟨q, 5, none⟩ = some (.int .i64 r.h.seq)) (hSC.out _ (Below.refl _ _).drew) (fun hHeld => ?_)
    ((first | refine held_sk (i := 0) ?_ | refine held_tk (i := 0) ?_); (first | refine held_sk (i := 1) ?_ | refine held_tk (i := 1) ?_); (first | refine held_sk (i := 2) ?_ | refine held_tk (i := 2) ?_); (first | refine held_sk (i := 3) ?_ | refine held_tk (i := 3) ?_); (first | refine held_sk (i := 4) ?_ | refine held_tk (i := 4) ?_); (first | refine held_sk (i := 5) ?_ | refine held_tk (i := 5) ?_); (first | refine held_sk (i := 6) ?_ | refine held_tk (i := 6) ?_); (first | refine held_sk (i := 7) ?_ | refine held_tk (i := 7) ?_); (first | refine held_sk (i := 8) ?_ | refine held_tk (i := 8) ?_))
    refine held_one (i := 9) rfl (by kernel_rfl) (fun K hK => ?_)
    go_simp
    go_at_call 42
    (with_reducible refine (FD.out _ (HF1.out.trans (Below.refl _ _).drew)).mono ?_)
    rintro e w5 ⟨rfl, hf5⟩
    have HF15 : Hid (Fr W1 w5) := Fr.trans (Below.refl _ _).drew hf5
    (refine held_back hK (a' := ?hA5) (l' := ?hL5) ?ha5 ?hl5 (hSC.out _ HF15.out) (fun hHeld => ?hh5); (case ha5 => first | with_reducible rfl | (simp only [Act.put, hq1, hq2, hq3, Option.isNone, Bool.not_true, Bool.not_false]; (try with_reducible rfl))); (case hl5 => (simp only [Act.put, hq1, hq2, hq3, Option.isNone, Bool.not_true, Bool.not_false]; (try with_reducible rfl))); clear hK K)
    ((first | refine held_sk (i := 10) ?_ | refine held_tk (i := 10) ?_))
    refine wpAnyH_done (by kernel_rfl) ?_ _
    clear hf5 hSC hHeld FD
    obtain ⟨WB, hWB⟩ : ∃ WB, WB = w5 := ⟨_, rfl⟩
    rw [← hWB] at HF15 ⊢
    clear hWB
    have HFB : Hid (Fr w WB) := HF1.out.trans HF15.out
    have HQB := Lib.hid (blk_go HQ1.out HF15.out)
    by_cases hk0 : kf < 0
    · have hfn : findAt r.h.frm r.h.seq p.keep = none := by
        have h1 := HKF.out
        unfold findF at h1
        cases hf : findAt r.h.frm r.h.seq p.keep with
        | none => rfl
        | some i => rw [hf] at h1; dsimp only at h1; omega
      have E5 : Hid (stepF p r = (p, 5)) := by
        unfold stepF Hid
        rw [if_neg (by rw [hkr]; decide), if_neg (by rw [hkr]; decide), if_pos ⟨by rw [hkr]; decide, hfn⟩]
      have t0 : decide (kf < 0) = true := by simp [hk0]
      clear hk0 hfn
      simp only [t0]
      go_wp2_with fail
      go_ret
      exact next_err (by decide) HFB.out.chg E5.out
    have t0 : decide (kf < 0) = false := by simp; omega
    simp only [t0]
    have hfs : findAt r.h.frm r.h.seq p.keep ≠ none := fun hf => by
      have h1 := HKF.out
      unfold findF at h1
      rw [hf] at h1
      dsimp only at h1
      omega
    clear hk0
    have hbx := (H.out.fr HFB.out).blk
    have hqx := HQB.out
    (obtain ⟨bp0, bp1, bp2, bp3⟩ := box4_ hbx)
    (obtain ⟨bx0, bx1, bx2, bx3, bx4, bx5, bx6, bx7, bx8, bx9, bx10, bx11, bx12⟩ := box13_ hqx)
    clear hbx hqx
    have EB := Lib.hid (stepF_bun (p := p) (r := r) (by rw [hkr]; decide) (by rw [hkr]; decide) (fun _ => hfs))
    go_upto_region 9 with fail
    go_wp2_with fail
    with_reducible refine (bundle_any WB base pb p A c lo (H.out.fr HFB.out) h12 r.h hwh (Nat.le_trans hbw HFB.out.size)).mono ?_
    rintro e w6 hbun
    have hown : ∀ b, (Value.slice A p.keep.length c).ownBlock = some b → base ≤ b ∧ b < w.heap.size := fun b hb => (H.out.plM.own).ge hb
    rcases hbun with ⟨rfl, hne, hch, hpl5⟩ | ⟨l, i, x, g, cap, Ac, nc, cc, vS, vT, T, hbe, rfl, hch, hbk, hfo⟩
    · obtain ⟨be, hbe⟩ : ∃ be, be = (bundleF p r.h).2 := ⟨_, rfl⟩
      have E5 : Hid (stepF p r = (p, be)) := by rw [hbe]; exact EB.out.trans (if_pos hne)
      rw [← hbe] at hne ⊢
      have t0 : (be != 0) = true := by simp [hne]
      have HB6 : Hid (Chg (PlS base pb) w w6) := by
        have q1 : Chg (PlS base pb) w WB := HFB.out.chg
        have q2 : Chg (PlS base pb) WB w6 := hch.more fun b hb => by
          rcases hb with hb | hb
          · exact .inl hb
          · exact .inr (hown b hb).1
        exact q1.trans q2
      have HNE := Lib.hid hne
      clear hbe hch hpl5 hne EB bp0 bp1 bp2 bp3 bx0 bx1 bx2 bx3 bx4 bx5 bx6 bx7 bx8 bx9 bx10 bx11 bx12
      go_wp2_with fail
      go_ret
      exact next_err HNE.out HB6.out E5.out
    clear bp0 bp1 bp2 bp3 bx0 bx1 bx2 bx3 bx4 bx5 bx6 bx7 bx8 bx9 bx10 bx11 bx12
    have hch6 : Chg (BunS pb (.slice A p.keep.length c)) w w6 := HFB.out.chg.trans hch
    have hnq : ¬ BunS pb (.slice A p.keep.length c) q := fun hb => by
      have := HQW.out
      rcases hb with hb | hb
      · omega
      · have := hown _ hb; omega
    have HQ6 := Lib.hid (hch.blk HQB.out hnq)
    have HBK := Lib.hid hbk
    have HFO := Lib.hid hfo
    have HEL : Hid (∀ e w7, FocPost T w6 base g cap l i Ac nc cc vS vT (elemF p.me x r) e w7 → NextPost w base pb p r e w7) := fun e w7 hp => next_elem hpb hbw (fun b hb => (hown b hb).1) hch6 hbk hfo hbe EB.out hp
    have hxk : KpOk x p.me p.time := (bundleF_ok hok (hro.head (by rw [hkr]; decide)) hbe).ok
    have hSd : ∀ b, S b → b < w.heap.size ∧ ¬ BunS pb (.slice A p.keep.length c) b := fun b hb => ⟨Nat.lt_trans (hS b hb) hpl, fun h => by
      have := hS b hb
      rcases h with h | h
      · omega
      · have := hown _ h; omega⟩
    have HBD6 : Hid (Byt w6 (LT w6.heap.size) B nb cb r.s.data) := ⟨HBS.out.1, (HBS.out.2.keep sByte fun a ha => hch6.cell (hSd _ ha).1 (hSd _ ha).2).more sByte fun b hb => Nat.lt_of_lt_of_le (hSd b hb).1 hch6.size⟩
    have HBC6 : Hid (Byt w6 (LT w6.heap.size) B2 nb2 cb2 r.cargo) := ⟨HCS.out.1, (HCS.out.2.keep sByte fun a ha => hch6.cell (hSd _ ha).1 (hSd _ ha).2).more sByte fun b hb => Nat.lt_of_lt_of_le (hSd b hb).1 hch6.size⟩
    have hbx := HBK.out
    have hqx := HQ6.out
    (obtain ⟨bp0, bp1, bp2, bp3⟩ := box4_ hbx)
    (obtain ⟨bx0, bx1, bx2, bx3, bx4, bx5, bx6, bx7, bx8, bx9, bx10, bx11, bx12⟩ := box13_ hqx)
    clear hbx hqx hbk hfo hbe hch hch6 hnq hown EB
    have SH := Lib.hid (share_any w6.drew T base g cap l i x Ac nc cc vS vT (HFO.out.fr (Below.refl _ _).drew) p.me p.time p.seq (some ⟨g, 0, none⟩) l.length cap r B nb cb B2 nb2 cb2 (by rw [hkr]; decide) ⟨hro.place, hro.try_, hro.n⟩ ⟨hxk.shares, hxk.try_⟩)
    rw [hkr] at SH
    have hSC : Hid (∀ w', Fr w6 w' → w'.cell? ⟨pb, 0, none⟩ = some (.int .i64 p.me) ∧ w'.cell? ⟨pb, 1, none⟩ = some (.slice (some ⟨g, 0, none⟩) l.length cap) ∧ w'.cell? ⟨pb, 2, none⟩ = some (.int .i64 p.time) ∧ w'.cell? ⟨pb, 3, none⟩ = some (.int .i64 p.seq) ∧ w'.cell? ⟨q, 0, none⟩ = some (.int .i64 5) ∧ w'.cell? ⟨q, 1, none⟩ = some (.int .i64 r.place) ∧ w'.cell? ⟨q, 2, none⟩ = some (.int .i64 r.n) ∧ w'.cell? ⟨q, 3, none⟩ = some (.int .i64 r.try_) ∧ w'.cell? ⟨q, 4, none⟩ = some (.int .i64 r.h.frm) ∧ w'.cell? ⟨q, 5, none⟩ = some (.int .i64 r.h.seq) ∧ w'.cell? ⟨q, 6, none⟩ = some (.int .i64 r.h.to) ∧ w'.cell? ⟨q, 7, none⟩ = some (.int .i64 r.h.till) ∧ w'.cell? ⟨q, 8, none⟩ = some (.int .i64 r.h.bytes) ∧ w'.cell? ⟨q, 9, none⟩ = some (.int .i64 r.h.block) ∧ w'.cell? ⟨q, 10, none⟩ = some (.int .i64 r.s.id) ∧ w'.cell? ⟨q, 11, none⟩ = some (.slice B nb cb) ∧ w'.cell? ⟨q, 12, none⟩ = some (.slice B2 nb2 cb2)) := fun w' hf => ⟨(hf.cell (World.block_lt_of_cell? w6 _ bp0)).trans bp0, (hf.cell (World.block_lt_of_cell? w6 _ bp1)).trans bp1, (hf.cell (World.block_lt_of_cell? w6 _ bp2)).trans bp2, (hf.cell (World.block_lt_of_cell? w6 _ bp3)).trans bp3, (hf.cell (World.block_lt_of_cell? w6 _ bx0)).trans bx0, (hf.cell (World.block_lt_of_cell? w6 _ bx1)).trans bx1, (hf.cell (World.block_lt_of_cell? w6 _ bx2)).trans bx2, (hf.cell (World.block_lt_of_cell? w6 _ bx3)).trans bx3, (hf.cell (World.block_lt_of_cell? w6 _ bx4)).trans bx4, (hf.cell (World.block_lt_of_cell? w6 _ bx5)).trans bx5, (hf.cell (World.block_lt_of_cell? w6 _ bx6)).trans bx6, (hf.cell (World.block_lt_of_cell? w6 _ bx7)).trans bx7, (hf.cell (World.block_lt_of_cell? w6 _ bx8)).trans bx8, (hf.cell (World.block_lt_of_cell? w6 _ bx9)).trans bx9, (hf.cell (World.block_lt_of_cell? w6 _ bx10)).trans bx10, (hf.cell (World.block_lt_of_cell? w6 _ bx11)).trans bx11, (hf.cell (World.block_lt_of_cell? w6 _ bx12)).trans bx12⟩
    clear bp0 bp1 bp2 bp3 bx1 bx2 bx3 bx4 bx5 bx6 bx7 bx8 bx9 bx10 bx11 bx12
    go_upto_region 23 with fail
    clear bx0
    refine held_begin (n := 7) (bs := #[false, false, false, false, false, false, false]) rfl rfl (by kernel_rfl) (S := fun w' => w'.cell? ⟨pb, 0, none⟩ = some (.int .i64 p.me) ∧ w'.cell? ⟨pb, 1, none⟩ = some (.slice (some ⟨g, 0, none⟩) l.length cap) ∧ w'.cell? ⟨pb, 2, none⟩ = some (.int .i64 p.time) ∧ w'.cell? ⟨pb, 3, none⟩ = some (.int .i64 p.seq) ∧ w'.cell? ⟨q, 0, none⟩ = some (.int .i64 5) ∧ w'.cell? ⟨q, 1, none⟩ = some (.int .i64 r.place) ∧ w'.cell? ⟨q, 2, none⟩ = some (.int .i64 r.n) ∧ w'.cell? ⟨q, 3, none⟩ = some (.int .i64 r.try_) ∧ w'.cell? ⟨q, 4, none⟩ = some (.int .i64 r.h.frm) ∧ w'.cell? ⟨q, 5, none⟩ = some (.int .i64 r.h.seq) ∧ w'.cell? ⟨q, 6, none⟩ = some (.int .i64 r.h.to) ∧ w'.cell? ⟨q, 7, none⟩ = some (.int .i64 r.h.till) ∧ w'.cell? ⟨q, 8, none⟩ = some (.int .i64 r.h.bytes) ∧ w'.cell? ⟨q, 9, none⟩ = some (.int .i64 r.h.block) ∧ w'.cell? ⟨q, 10, none⟩ = some (.int .i64 r.s.id) ∧ w'.cell? ⟨q, 11, none⟩ = some (.slice B nb cb) ∧ w'.cell? ⟨q, 12, none⟩ = some (.slice B2 nb2 cb2)) (hSC.out _ (Below.refl _ _).drew) (fun hHeld => ?_)
    ((first | refine held_sk (i := 0) ?_ | refine held_tk (i := 0) ?_); (first | refine held_sk (i := 1) ?_ | refine held_tk (i := 1) ?_); (first | refine held_sk (i := 2) ?_ | refine held_tk (i := 2) ?_); (first | refine held_sk (i := 3) ?_ | refine held_tk (i := 3) ?_); (first | refine held_sk (i := 4) ?_ | refine held_tk (i := 4) ?_))
    refine held_one (i := 5) rfl (by kernel_rfl) (fun K hK => ?_)
    go_simp
    go_at_call 114
    (with_reducible refine (SH.out).mono ?_)
    rintro e w7 hpost
    have hpost2 : FocPost T w6 base g cap l i Ac nc cc vS vT (elemF p.me x r) e w7 := by
      rw [show elemF p.me x r = shareF p.me x r from by unfold elemF; rw [if_neg (by rw [hkr]; decide), if_neg (by rw [hkr]; decide), if_neg (by rw [hkr]; decide)]]
      exact ⟨hpost.1, (Chg.refl (FocS g vS vT) w6).drew.trans hpost.2.1, hpost.2.2⟩
    have hcell : ∀ b o v, (b = pb ∨ b = q) → w6.cell? ⟨b, o, none⟩ = some v → w7.cell? ⟨b, o, none⟩ = some v := fun b o v hb hv => by
      refine (hpost2.2.1.cell (p := ⟨b, o, none⟩) (World.block_lt_of_cell? w6 _ hv) ?_).trans hv
      show ¬ FocS g vS vT b
      intro hf
      rcases hb with rfl | rfl
      · rcases hf with hf | hf | hf
        · have := HFO.out.foc.hbg; omega
        · have := (HFO.out.foc.syms.ge hf).1; omega
        · have := (HFO.out.foc.took.ge hf).1; omega
      · rcases hf with hf | hf | hf
        · obtain ⟨cs0, rest0, hg0, _⟩ := HFO.out.foc.blk
          have hq0 := HQ6.out
          rw [hf, hg0] at hq0
          injection hq0 with hq0
          injection hq0 with _ hq0
          exact absurd hq0 (by decide)
        · exact HFO.out.foc.syms.notBlk HQ6.out (by decide) hf rfl
        · exact HFO.out.foc.took.notBlk HQ6.out (by decide) hf rfl
    have hS7 : w7.cell? ⟨pb, 0, none⟩ = some (.int .i64 p.me) ∧ w7.cell? ⟨pb, 1, none⟩ = some (.slice (some ⟨g, 0, none⟩) l.length cap) ∧ w7.cell? ⟨pb, 2, none⟩ = some (.int .i64 p.time) ∧ w7.cell? ⟨pb, 3, none⟩ = some (.int .i64 p.seq) ∧ w7.cell? ⟨q, 0, none⟩ = some (.int .i64 5) ∧ w7.cell? ⟨q, 1, none⟩ = some (.int .i64 r.place) ∧ w7.cell? ⟨q, 2, none⟩ = some (.int .i64 r.n) ∧ w7.cell? ⟨q, 3, none⟩ = some (.int .i64 r.try_) ∧ w7.cell? ⟨q, 4, none⟩ = some (.int .i64 r.h.frm) ∧ w7.cell? ⟨q, 5, none⟩ = some (.int .i64 r.h.seq) ∧ w7.cell? ⟨q, 6, none⟩ = some (.int .i64 r.h.to) ∧ w7.cell? ⟨q, 7, none⟩ = some (.int .i64 r.h.till) ∧ w7.cell? ⟨q, 8, none⟩ = some (.int .i64 r.h.bytes) ∧ w7.cell? ⟨q, 9, none⟩ = some (.int .i64 r.h.block) ∧ w7.cell? ⟨q, 10, none⟩ = some (.int .i64 r.s.id) ∧ w7.cell? ⟨q, 11, none⟩ = some (.slice B nb cb) ∧ w7.cell? ⟨q, 12, none⟩ = some (.slice B2 nb2 cb2) := by
      obtain ⟨k0, k1, k2, k3, k4, k5, k6, k7, k8, k9, k10, k11, k12, k13, k14, k15, k16⟩ := hSC.out w6 (Below.refl _ _)
      exact ⟨hcell pb 0 _ (.inl rfl) k0, hcell pb 1 _ (.inl rfl) k1, hcell pb 2 _ (.inl rfl) k2, hcell pb 3 _ (.inl rfl) k3, hcell q 0 _ (.inr rfl) k4, hcell q 1 _ (.inr rfl) k5, hcell q 2 _ (.inr rfl) k6, hcell q 3 _ (.inr rfl) k7, hcell q 4 _ (.inr rfl) k8, hcell q 5 _ (.inr rfl) k9, hcell q 6 _ (.inr rfl) k10, hcell q 7 _ (.inr rfl) k11, hcell q 8 _ (.inr rfl) k12, hcell q 9 _ (.inr rfl) k13, hcell q 10 _ (.inr rfl) k14, hcell q 11 _ (.inr rfl) k15, hcell q 12 _ (.inr rfl) k16⟩
    obtain ⟨ev, hev⟩ : ∃ ev, ev = (elemF p.me x r).2 := ⟨_, rfl⟩
    have hee := hpost2.1
    rw [← hev] at hee
    have HE7 := HEL.out _ _ hpost2
    rw [hee] at HE7
    subst hee
    have HE8 := Lib.hid HE7
    clear HE7 hpost hpost2 hcell hev HEL HFO HBD6 HBC6 SH HBK hxk
    (refine held_back hK (a' := ?hA6) (l' := ?hL6) ?ha6 ?hl6 (hS7) (fun hHeld => ?hh6); (case ha6 => first | with_reducible rfl | (simp only [Act.put, hq1, hq2, hq3, Option.isNone, Bool.not_true, Bool.not_false]; (try with_reducible rfl))); (case hl6 => (simp only [Act.put, hq1, hq2, hq3, Option.isNone, Bool.not_true, Bool.not_false]; (try with_reducible rfl))); clear hK K)
    ((first | refine held_sk (i := 6) ?_ | refine held_tk (i := 6) ?_))
    refine wpAnyH_done (by kernel_rfl) ?_ _
    clear hSC hHeld hS7
    go_wp2_with fail
    go_ret
    exact HE8.out
  · skip
    have hkr : r.kind = 6 := HKD.out.symm
    go_upto_region 1 with fail
    obtain ⟨W1, hW1⟩ : ∃ W1, W1 = w.alloc (.cells #[.int .i64 6, .int .i64 r.place, .int .i64 r.n, .int .i64 r.try_, .int .i64 r.h.frm, .int .i64 r.h.seq, .int .i64 r.h.to, .int .i64 r.h.till, .int .i64 r.h.bytes, .int .i64 r.h.block, .int .i64 r.s.id, .slice B nb cb, .slice B2 nb2 cb2] 40) := ⟨_, rfl⟩
    obtain ⟨q, hq⟩ : ∃ q, q = w.heap.size := ⟨_, rfl⟩
    have HQ1 : Hid (W1.heap[q]? = some (.cells #[.int .i64 6, .int .i64 r.place, .int .i64 r.n, .int .i64 r.try_, .int .i64 r.h.frm, .int .i64 r.h.seq, .int .i64 r.h.to, .int .i64 r.h.till, .int .i64 r.h.bytes, .int .i64 r.h.block, .int .i64 r.s.id, .slice B nb cb, .slice B2 nb2 cb2] 40 (0, 0))) := by rw [hW1]; exact heap_new hq
    have HF1 : Hid (Fr w W1) := by rw [hW1]; exact frAlloc _ _
    rw [← hW1, ← hq]
    have HQW : Hid (q = w.heap.size) := hq
    clear hW1 hq
    have hbx := (H.out.fr HF1.out).blk
    have hqx := HQ1.out
    (obtain ⟨bp0, bp1, bp2, bp3⟩ := box4_ hbx)
    (obtain ⟨bx0, bx1, bx2, bx3, bx4, bx5, bx6, bx7, bx8, bx9, bx10, bx11, bx12⟩ := box13_ hqx)
    clear hbx hqx
    have HFB := HF1
    have HQB := HQ1
    obtain ⟨WB, rfl⟩ : ∃ WB, WB = W1 := ⟨_, rfl⟩
    have EB := Lib.hid (stepF_bun (p := p) (r := r) (by rw [hkr]; decide) (by rw [hkr]; decide) (fun e => absurd e (by rw [hkr]; decide)))
    go_upto_region 9 with fail
    go_wp2_with fail
    with_reducible refine (bundle_any WB base pb p A c lo (H.out.fr HFB.out) h12 r.h hwh (Nat.le_trans hbw HFB.out.size)).mono ?_
    rintro e w6 hbun
    have hown : ∀ b, (Value.slice A p.keep.length c).ownBlock = some b → base ≤ b ∧ b < w.heap.size := fun b hb => (H.out.plM.own).ge hb
    rcases hbun with ⟨rfl, hne, hch, hpl5⟩ | ⟨l, i, x, g, cap, Ac, nc, cc, vS, vT, T, hbe, rfl, hch, hbk, hfo⟩
    · obtain ⟨be, hbe⟩ : ∃ be, be = (bundleF p r.h).2 := ⟨_, rfl⟩
      have E5 : Hid (stepF p r = (p, be)) := by rw [hbe]; exact EB.out.trans (if_pos hne)
      rw [← hbe] at hne ⊢
      have t0 : (be != 0) = true := by simp [hne]
      have HB6 : Hid (Chg (PlS base pb) w w6) := by
        have q1 : Chg (PlS base pb) w WB := HFB.out.chg
        have q2 : Chg (PlS base pb) WB w6 := hch.more fun b hb => by
          rcases hb with hb | hb
          · exact .inl hb
          · exact .inr (hown b hb).1
        exact q1.trans q2
      have HNE := Lib.hid hne
      clear hbe hch hpl5 hne EB bp0 bp1 bp2 bp3 bx0 bx1 bx2 bx3 bx4 bx5 bx6 bx7 bx8 bx9 bx10 bx11 bx12
      go_wp2_with fail
      go_ret
      exact next_err HNE.out HB6.out E5.out
    clear bp0 bp1 bp2 bp3 bx0 bx1 bx2 bx3 bx4 bx5 bx6 bx7 bx8 bx9 bx10 bx11 bx12
    have hch6 : Chg (BunS pb (.slice A p.keep.length c)) w w6 := HFB.out.chg.trans hch
    have hnq : ¬ BunS pb (.slice A p.keep.length c) q := fun hb => by
      have := HQW.out
      rcases hb with hb | hb
      · omega
      · have := hown _ hb; omega
    have HQ6 := Lib.hid (hch.blk HQB.out hnq)
    have HBK := Lib.hid hbk
    have HFO := Lib.hid hfo
    have HEL : Hid (∀ e w7, FocPost T w6 base g cap l i Ac nc cc vS vT (elemF p.me x r) e w7 → NextPost w base pb p r e w7) := fun e w7 hp => next_elem hpb hbw (fun b hb => (hown b hb).1) hch6 hbk hfo hbe EB.out hp
    have hxk : KpOk x p.me p.time := (bundleF_ok hok (hro.head (by rw [hkr]; decide)) hbe).ok
    have hSd : ∀ b, S b → b < w.heap.size ∧ ¬ BunS pb (.slice A p.keep.length c) b := fun b hb => ⟨Nat.lt_trans (hS b hb) hpl, fun h => by
      have := hS b hb
      rcases h with h | h
      · omega
      · have := hown _ h; omega⟩
    have HBD6 : Hid (Byt w6 (LT w6.heap.size) B nb cb r.s.data) := ⟨HBS.out.1, (HBS.out.2.keep sByte fun a ha => hch6.cell (hSd _ ha).1 (hSd _ ha).2).more sByte fun b hb => Nat.lt_of_lt_of_le (hSd b hb).1 hch6.size⟩
    have HBC6 : Hid (Byt w6 (LT w6.heap.size) B2 nb2 cb2 r.cargo) := ⟨HCS.out.1, (HCS.out.2.keep sByte fun a ha => hch6.cell (hSd _ ha).1 (hSd _ ha).2).more sByte fun b hb => Nat.lt_of_lt_of_le (hSd b hb).1 hch6.size⟩
    have hbx := HBK.out
    have hqx := HQ6.out
    (obtain ⟨bp0, bp1, bp2, bp3⟩ := box4_ hbx)
    (obtain ⟨bx0, bx1, bx2, bx3, bx4, bx5, bx6, bx7, bx8, bx9, bx10, bx11, bx12⟩ := box13_ hqx)
    clear hbx hqx hbk hfo hbe hch hch6 hnq hown EB
    have SH := Lib.hid (share_any w6.drew T base g cap l i x Ac nc cc vS vT (HFO.out.fr (Below.refl _ _).drew) p.me p.time p.seq (some ⟨g, 0, none⟩) l.length cap r B nb cb B2 nb2 cb2 (by rw [hkr]; decide) ⟨hro.place, hro.try_, hro.n⟩ ⟨hxk.shares, hxk.try_⟩)
    rw [hkr] at SH
    have hSC : Hid (∀ w', Fr w6 w' → w'.cell? ⟨pb, 0, none⟩ = some (.int .i64 p.me) ∧ w'.cell? ⟨pb, 1, none⟩ = some (.slice (some ⟨g, 0, none⟩) l.length cap) ∧ w'.cell? ⟨pb, 2, none⟩ = some (.int .i64 p.time) ∧ w'.cell? ⟨pb, 3, none⟩ = some (.int .i64 p.seq) ∧ w'.cell? ⟨q, 0, none⟩ = some (.int .i64 6) ∧ w'.cell? ⟨q, 1, none⟩ = some (.int .i64 r.place) ∧ w'.cell? ⟨q, 2, none⟩ = some (.int .i64 r.n) ∧ w'.cell? ⟨q, 3, none⟩ = some (.int .i64 r.try_) ∧ w'.cell? ⟨q, 4, none⟩ = some (.int .i64 r.h.frm) ∧ w'.cell? ⟨q, 5, none⟩ = some (.int .i64 r.h.seq) ∧ w'.cell? ⟨q, 6, none⟩ = some (.int .i64 r.h.to) ∧ w'.cell? ⟨q, 7, none⟩ = some (.int .i64 r.h.till) ∧ w'.cell? ⟨q, 8, none⟩ = some (.int .i64 r.h.bytes) ∧ w'.cell? ⟨q, 9, none⟩ = some (.int .i64 r.h.block) ∧ w'.cell? ⟨q, 10, none⟩ = some (.int .i64 r.s.id) ∧ w'.cell? ⟨q, 11, none⟩ = some (.slice B nb cb) ∧ w'.cell? ⟨q, 12, none⟩ = some (.slice B2 nb2 cb2)) := fun w' hf => ⟨(hf.cell (World.block_lt_of_cell? w6 _ bp0)).trans bp0, (hf.cell (World.block_lt_of_cell? w6 _ bp1)).trans bp1, (hf.cell (World.block_lt_of_cell? w6 _ bp2)).trans bp2, (hf.cell (World.block_lt_of_cell? w6 _ bp3)).trans bp3, (hf.cell (World.block_lt_of_cell? w6 _ bx0)).trans bx0, (hf.cell (World.block_lt_of_cell? w6 _ bx1)).trans bx1, (hf.cell (World.block_lt_of_cell? w6 _ bx2)).trans bx2, (hf.cell (World.block_lt_of_cell? w6 _ bx3)).trans bx3, (hf.cell (World.block_lt_of_cell? w6 _ bx4)).trans bx4, (hf.cell (World.block_lt_of_cell? w6 _ bx5)).trans bx5, (hf.cell (World.block_lt_of_cell? w6 _ bx6)).trans bx6, (hf.cell (World.block_lt_of_cell? w6 _ bx7)).trans bx7, (hf.cell (World.block_lt_of_cell? w6 _ bx8)).trans bx8, (hf.cell (World.block_lt_of_cell? w6 _ bx9)).trans bx9, (hf.cell (World.block_lt_of_cell? w6 _ bx10)).trans bx10, (hf.cell (World.block_lt_of_cell? w6 _ bx11)).trans bx11, (hf.cell (World.block_lt_of_cell? w6 _ bx12)).trans bx12⟩
    clear bp0 bp1 bp2 bp3 bx1 bx2 bx3 bx4 bx5 bx6 bx7 bx8 bx9 bx10 bx11 bx12
    go_upto_region 23 with fail
    clear bx0
    refine held_begin (n := 7) (bs := #[false, false, false, false, false, false, false]) rfl rfl (by kernel_rfl) (S := fun w' => w'.cell? ⟨pb, 0, none⟩ = some (.int .i64 p.me) ∧ w'.cell? ⟨pb, 1, none⟩ = some (.slice (some ⟨g, 0, none⟩) l.length cap) ∧ w'.cell? ⟨pb, 2, none⟩ = some (.int .i64 p.time) ∧ w'.cell? ⟨pb, 3, none⟩ = some (.int .i64 p.seq) ∧ w'.cell? ⟨q, 0, none⟩ = some (.int .i64 6) ∧ w'.cell? ⟨q, 1, none⟩ = some (.int .i64 r.place) ∧ w'.cell? ⟨q, 2, none⟩ = some (.int .i64 r.n) ∧ w'.cell? ⟨q, 3, none⟩ = some (.int .i64 r.try_) ∧ w'.cell? ⟨q, 4, none⟩ = some (.int .i64 r.h.frm) ∧ w'.cell? ⟨q, 5, none⟩ = some (.int .i64 r.h.seq) ∧ w'.cell? ⟨q, 6, none⟩ = some (.int .i64 r.h.to) ∧ w'.cell? ⟨q, 7, none⟩ = some (.int .i64 r.h.till) ∧ w'.cell? ⟨q, 8, none⟩ = some (.int .i64 r.h.bytes) ∧ w'.cell? ⟨q, 9, none⟩ = some (.int .i64 r.h.block) ∧ w'.cell? ⟨q, 10, none⟩ = some (.int .i64 r.s.id) ∧ w'.cell? ⟨q, 11, none⟩ = some (.slice B nb cb) ∧ w'.cell? ⟨q, 12, none⟩ = some (.slice B2 nb2 cb2)) (hSC.out _ (Below.refl _ _).drew) (fun hHeld => ?_)
    ((first | refine held_sk (i := 0) ?_ | refine held_tk (i := 0) ?_); (first | refine held_sk (i := 1) ?_ | refine held_tk (i := 1) ?_); (first | refine held_sk (i := 2) ?_ | refine held_tk (i := 2) ?_); (first | refine held_sk (i := 3) ?_ | refine held_tk (i := 3) ?_); (first | refine held_sk (i := 4) ?_ | refine held_tk (i := 4) ?_))
    refine held_one (i := 5) rfl (by kernel_rfl) (fun K hK => ?_)
    go_simp
    go_at_call 114
    (with_reducible refine (SH.out).mono ?_)
    rintro e w7 hpost
    have hpost2 : FocPost T w6 base g cap l i Ac nc cc vS vT (elemF p.me x r) e w7 := by
      rw [show elemF p.me x r = shareF p.me x r from by unfold elemF; rw [if_neg (by rw [hkr]; decide), if_neg (by rw [hkr]; decide), if_neg (by rw [hkr]; decide)]]
      exact ⟨hpost.1, (Chg.refl (FocS g vS vT) w6).drew.trans hpost.2.1, hpost.2.2⟩
    have hcell : ∀ b o v, (b = pb ∨ b = q) → w6.cell? ⟨b, o, none⟩ = some v → w7.cell? ⟨b, o, none⟩ = some v := fun b o v hb hv => by
      refine (hpost2.2.1.cell (p := ⟨b, o, none⟩) (World.block_lt_of_cell? w6 _ hv) ?_).trans hv
      show ¬ FocS g vS vT b
      intro hf
      rcases hb with rfl | rfl
      · rcases hf with hf | hf | hf
        · have := HFO.out.foc.hbg; omega
        · have := (HFO.out.foc.syms.ge hf).1; omega
        · have := (HFO.out.foc.took.ge hf).1; omega
      · rcases hf with hf | hf | hf
        · obtain ⟨cs0, rest0, hg0, _⟩ := HFO.out.foc.blk
          have hq0 := HQ6.out
          rw [hf, hg0] at hq0
          injection hq0 with hq0
          injection hq0 with _ hq0
          exact absurd hq0 (by decide)
        · exact HFO.out.foc.syms.notBlk HQ6.out (by decide) hf rfl
        · exact HFO.out.foc.took.notBlk HQ6.out (by decide) hf rfl
    have hS7 : w7.cell? ⟨pb, 0, none⟩ = some (.int .i64 p.me) ∧ w7.cell? ⟨pb, 1, none⟩ = some (.slice (some ⟨g, 0, none⟩) l.length cap) ∧ w7.cell? ⟨pb, 2, none⟩ = some (.int .i64 p.time) ∧ w7.cell? ⟨pb, 3, none⟩ = some (.int .i64 p.seq) ∧ w7.cell? ⟨q, 0, none⟩ = some (.int .i64 6) ∧ w7.cell? ⟨q, 1, none⟩ = some (.int .i64 r.place) ∧ w7.cell? ⟨q, 2, none⟩ = some (.int .i64 r.n) ∧ w7.cell? ⟨q, 3, none⟩ = some (.int .i64 r.try_) ∧ w7.cell? ⟨q, 4, none⟩ = some (.int .i64 r.h.frm) ∧ w7.cell? ⟨q, 5, none⟩ = some (.int .i64 r.h.seq) ∧ w7.cell? ⟨q, 6, none⟩ = some (.int .i64 r.h.to) ∧ w7.cell? ⟨q, 7, none⟩ = some (.int .i64 r.h.till) ∧ w7.cell? ⟨q, 8, none⟩ = some (.int .i64 r.h.bytes) ∧ w7.cell? ⟨q, 9, none⟩ = some (.int .i64 r.h.block) ∧ w7.cell? ⟨q, 10, none⟩ = some (.int .i64 r.s.id) ∧ w7.cell? ⟨q, 11, none⟩ = some (.slice B nb cb) ∧ w7.cell? ⟨q, 12, none⟩ = some (.slice B2 nb2 cb2) := by
      obtain ⟨k0, k1, k2, k3, k4, k5, k6, k7, k8, k9, k10, k11, k12, k13, k14, k15, k16⟩ := hSC.out w6 (Below.refl _ _)
      exact ⟨hcell pb 0 _ (.inl rfl) k0, hcell pb 1 _ (.inl rfl) k1, hcell pb 2 _ (.inl rfl) k2, hcell pb 3 _ (.inl rfl) k3, hcell q 0 _ (.inr rfl) k4, hcell q 1 _ (.inr rfl) k5, hcell q 2 _ (.inr rfl) k6, hcell q 3 _ (.inr rfl) k7, hcell q 4 _ (.inr rfl) k8, hcell q 5 _ (.inr rfl) k9, hcell q 6 _ (.inr rfl) k10, hcell q 7 _ (.inr rfl) k11, hcell q 8 _ (.inr rfl) k12, hcell q 9 _ (.inr rfl) k13, hcell q 10 _ (.inr rfl) k14, hcell q 11 _ (.inr rfl) k15, hcell q 12 _ (.inr rfl) k16⟩
    obtain ⟨ev, hev⟩ : ∃ ev, ev = (elemF p.me x r).2 := ⟨_, rfl⟩
    have hee := hpost2.1
    rw [← hev] at hee
    have HE7 := HEL.out _ _ hpost2
    rw [hee] at HE7
    subst hee
    have HE8 := Lib.hid HE7
    clear HE7 hpost hpost2 hcell hev HEL HFO HBD6 HBC6 SH HBK hxk
    (refine held_back hK (a' := ?hA7) (l' := ?hL7) ?ha7 ?hl7 (hS7) (fun hHeld => ?hh7); (case ha7 => first | with_reducible rfl | (simp only [Act.put, hq1, hq2, hq3, Option.isNone, Bool.not_true, Bool.not_false]; (try with_reducible rfl))); (case hl7 => (simp only [Act.put, hq1, hq2, hq3, Option.isNone, Bool.not_true, Bool.not_false]; (try with_reducible rfl))); clear hK K)
    ((first | refine held_sk (i := 6) ?_ | refine held_tk (i := 6) ?_))
    refine wpAnyH_done (by kernel_rfl) ?_ _
    clear hSC hHeld hS7
    go_wp2_with fail
    go_ret
    exact HE8.out
  · skip
    have hkr : r.kind = 7 := HKD.out.symm
    go_upto_region 1 with fail
    obtain ⟨W1, hW1⟩ : ∃ W1, W1 = w.alloc (.cells #[.int .i64 7, .int .i64 r.place, .int .i64 r.n, .int .i64 r.try_, .int .i64 r.h.frm, .int .i64 r.h.seq, .int .i64 r.h.to, .int .i64 r.h.till, .int .i64 r.h.bytes, .int .i64 r.h.block, .int .i64 r.s.id, .slice B nb cb, .slice B2 nb2 cb2] 40) := ⟨_, rfl⟩
    obtain ⟨q, hq⟩ : ∃ q, q = w.heap.size := ⟨_, rfl⟩
    have HQ1 : Hid (W1.heap[q]? = some (.cells #[.int .i64 7, .int .i64 r.place, .int .i64 r.n, .int .i64 r.try_, .int .i64 r.h.frm, .int .i64 r.h.seq, .int .i64 r.h.to, .int .i64 r.h.till, .int .i64 r.h.bytes, .int .i64 r.h.block, .int .i64 r.s.id, .slice B nb cb, .slice B2 nb2 cb2] 40 (0, 0))) := by rw [hW1]; exact heap_new hq
    have HF1 : Hid (Fr w W1) := by rw [hW1]; exact frAlloc _ _
    rw [← hW1, ← hq]
    have HQW : Hid (q = w.heap.size) := hq
    clear hW1 hq
    have hbx := (H.out.fr HF1.out).blk
    have hqx := HQ1.out
    (obtain ⟨bp0, bp1, bp2, bp3⟩ := box4_ hbx)
    (obtain ⟨bx0, bx1, bx2, bx3, bx4, bx5, bx6, bx7, bx8, bx9, bx10, bx11, bx12⟩ := box13_ hqx)
    clear hbx hqx
    have HFB := HF1
    have HQB := HQ1
    obtain ⟨WB, rfl⟩ : ∃ WB, WB = W1 := ⟨_, rfl⟩
    have EB := Lib.hid (stepF_bun (p := p) (r := r) (by rw [hkr]; decide) (by rw [hkr]; decide) (fun e => absurd e (by rw [hkr]; decide)))
    go_upto_region 9 with fail
    go_wp2_with fail
    with_reducible refine (bundle_any WB base pb p A c lo (H.out.fr HFB.out) h12 r.h hwh (Nat.le_trans hbw HFB.out.size)).mono ?_
    rintro e w6 hbun
    have hown : ∀ b, (Value.slice A p.keep.length c).ownBlock = some b → base ≤ b ∧ b < w.heap.size := fun b hb => (H.out.plM.own).ge hb
    rcases hbun with ⟨rfl, hne, hch, hpl5⟩ | ⟨l, i, x, g, cap, Ac, nc, cc, vS, vT, T, hbe, rfl, hch, hbk, hfo⟩
    · obtain ⟨be, hbe⟩ : ∃ be, be = (bundleF p r.h).2 := ⟨_, rfl⟩
      have E5 : Hid (stepF p r = (p, be)) := by rw [hbe]; exact EB.out.trans (if_pos hne)
      rw [← hbe] at hne ⊢
      have t0 : (be != 0) = true := by simp [hne]
      have HB6 : Hid (Chg (PlS base pb) w w6) := by
        have q1 : Chg (PlS base pb) w WB := HFB.out.chg
        have q2 : Chg (PlS base pb) WB w6 := hch.more fun b hb => by
          rcases hb with hb | hb
          · exact .inl hb
          · exact .inr (hown b hb).1
        exact q1.trans q2
      have HNE := Lib.hid hne
      clear hbe hch hpl5 hne EB bp0 bp1 bp2 bp3 bx0 bx1 bx2 bx3 bx4 bx5 bx6 bx7 bx8 bx9 bx10 bx11 bx12
      go_wp2_with fail
      go_ret
      exact next_err HNE.out HB6.out E5.out
    clear bp0 bp1 bp2 bp3 bx0 bx1 bx2 bx3 bx4 bx5 bx6 bx7 bx8 bx9 bx10 bx11 bx12
    have hch6 : Chg (BunS pb (.slice A p.keep.length c)) w w6 := HFB.out.chg.trans hch
    have hnq : ¬ BunS pb (.slice A p.keep.length c) q := fun hb => by
      have := HQW.out
      rcases hb with hb | hb
      · omega
      · have := hown _ hb; omega
    have HQ6 := Lib.hid (hch.blk HQB.out hnq)
    have HBK := Lib.hid hbk
    have HFO := Lib.hid hfo
    have HEL : Hid (∀ e w7, FocPost T w6 base g cap l i Ac nc cc vS vT (elemF p.me x r) e w7 → NextPost w base pb p r e w7) := fun e w7 hp => next_elem hpb hbw (fun b hb => (hown b hb).1) hch6 hbk hfo hbe EB.out hp
    have hxk : KpOk x p.me p.time := (bundleF_ok hok (hro.head (by rw [hkr]; decide)) hbe).ok
    have hSd : ∀ b, S b → b < w.heap.size ∧ ¬ BunS pb (.slice A p.keep.length c) b := fun b hb => ⟨Nat.lt_trans (hS b hb) hpl, fun h => by
      have := hS b hb
      rcases h with h | h
      · omega
      · have := hown _ h; omega⟩
    have HBD6 : Hid (Byt w6 (LT w6.heap.size) B nb cb r.s.data) := ⟨HBS.out.1, (HBS.out.2.keep sByte fun a ha => hch6.cell (hSd _ ha).1 (hSd _ ha).2).more sByte fun b hb => Nat.lt_of_lt_of_le (hSd b hb).1 hch6.size⟩
    have HBC6 : Hid (Byt w6 (LT w6.heap.size) B2 nb2 cb2 r.cargo) := ⟨HCS.out.1, (HCS.out.2.keep sByte fun a ha => hch6.cell (hSd _ ha).1 (hSd _ ha).2).more sByte fun b hb => Nat.lt_of_lt_of_le (hSd b hb).1 hch6.size⟩
    have hbx := HBK.out
    have hqx := HQ6.out
    (obtain ⟨bp0, bp1, bp2, bp3⟩ := box4_ hbx)
    (obtain ⟨bx0, bx1, bx2, bx3, bx4, bx5, bx6, bx7, bx8, bx9, bx10, bx11, bx12⟩ := box13_ hqx)
    clear hbx hqx hbk hfo hbe hch hch6 hnq hown EB
    obtain ⟨dl, hdl⟩ : ∃ o, o = x.delivered := ⟨_, rfl⟩
    obtain ⟨pg, hpg⟩ : ∃ o, o = x.purged := ⟨_, rfl⟩
    have hel : elemF p.me x r = purgeF x := by unfold elemF; rw [if_neg (by rw [hkr]; decide), if_neg (by rw [hkr]; decide), if_pos hkr]
    have EP : Hid (elemF p.me x r = if dl = true ∨ pg = true then (x, 7) else ({ x.over with purged := true }, 0)) := by rw [Hid, hel, purgeF, hdl, hpg]
    have hcl := HFO.out.foc.cells
    rw [← hdl, ← hpg] at hcl
    obtain ⟨m0, m1, m2, m3, m4, m5, m6, m7, m8, m9, m10, m11, m12, m13, m14, m15⟩ := hcl
    clear m0 m1 m2 m3 m4 m5 m6 m7 m8 m9 m10 m11 m12 m13 hel hdl hpg bp0 bp1 bp2 bp3 bx1 bx2 bx3 bx4 bx5 bx6 bx7 bx8 bx9 bx10 bx11 bx12
    cases hdp : (dl || pg) with
    | true =>
      have E2 : Hid (elemF p.me x r = (x, 7)) := EP.out.trans (if_pos (by simpa using hdp))
      have HE8 := Lib.hid (HEL.out _ _ (HFO.out.same (Below.refl _ _) E2.out))
      clear EP E2 HEL
      revert hdp
      cases dl <;> cases pg <;> intro hdp <;> first | (exact absurd hdp (by decide)) | (clear hdp; go_wp2_with fail; go_ret; exact HE8.out)
    | false =>
      obtain ⟨rfl, rfl⟩ : dl = false ∧ pg = false := by revert hdp; cases dl <;> cases pg <;> decide
      have E2 := Lib.hid (EP.out.trans (if_neg (by simp)))
      clear EP hdp
      obtain ⟨A2, c2, e2, _⟩ := HFO.out.foc.syms.slC (sSm.inn T) (by decide)
      subst e2
      have gf := HFO.out.foc.free (i * 16 + 15)
      have hgl7 := HFO.out.foc.gl
      have HX : Hid (Foc T (w6.setCell ⟨g, i * 16 + 15, none⟩ (.bool true)) base g cap l i { x with purged := true } Ac nc cc (.slice A2 x.syms.length c2) vT) := HFO.out.foc.set (t := 15) (by decide) rfl HFO.out.foc.wf HFO.out.foc.cargo HFO.out.foc.syms HFO.out.foc.took HFO.out.foc.l1 HFO.out.foc.l2
      have HC : Hid (Chg (FocS g (.slice A2 x.syms.length c2) vT) w6 (w6.setCell ⟨g, i * 16 + 15, none⟩ (.bool true))) := Chg.set (p := ⟨g, i * 16 + 15, none⟩) (Chg.refl _ _) (.inl rfl) _
      go_wp2_with fail
      (with_reducible refine (over_any _ T base g cap l i { x with purged := true } Ac nc cc A2 x.syms.length c2 vT HX.out).mono ?_)
      rintro e w9 ⟨rfl, hC9, hF9⟩
      have hpost2 : FocPost T w6 base g cap l i Ac nc cc (.slice A2 x.syms.length c2) vT (elemF p.me x r) (.returned (.int .i64 0)) w9 := by
        rw [E2.out]
        exact ⟨rfl, Chg.tr2 HC.out (T := FocS g (.slice A2 x.syms.length c2) vT) (hC9.more fun b hb => .inl hb) fun b hb => .inl hb, _, _, hF9⟩
      have HE8 := Lib.hid (HEL.out _ _ hpost2)
      clear hC9 hF9 hpost2 HX HC E2 HEL
      go_wp2_with fail
      go_ret
      exact HE8.out
  · skip
    have hkr : r.kind = 8 := HKD.out.symm
    go_upto_region 1 with fail
    obtain ⟨W1, hW1⟩ : ∃ W1, W1 = w.alloc (.cells #[.int .i64 8, .int .i64 r.place, .int .i64 r.n, .int .i64 r.try_, .int .i64 r.h.frm, .int .i64 r.h.seq, .int .i64 r.h.to, .int .i64 r.h.till, .int .i64 r.h.bytes, .int .i64 r.h.block, .int .i64 r.s.id, .slice B nb cb, .slice B2 nb2 cb2] 40) := ⟨_, rfl⟩
    obtain ⟨q, hq⟩ : ∃ q, q = w.heap.size := ⟨_, rfl⟩
    have HQ1 : Hid (W1.heap[q]? = some (.cells #[.int .i64 8, .int .i64 r.place, .int .i64 r.n, .int .i64 r.try_, .int .i64 r.h.frm, .int .i64 r.h.seq, .int .i64 r.h.to, .int .i64 r.h.till, .int .i64 r.h.bytes, .int .i64 r.h.block, .int .i64 r.s.id, .slice B nb cb, .slice B2 nb2 cb2] 40 (0, 0))) := by rw [hW1]; exact heap_new hq
    have HF1 : Hid (Fr w W1) := by rw [hW1]; exact frAlloc _ _
    rw [← hW1, ← hq]
    have HQW : Hid (q = w.heap.size) := hq
    clear hW1 hq
    have hbx := (H.out.fr HF1.out).blk
    have hqx := HQ1.out
    (obtain ⟨bp0, bp1, bp2, bp3⟩ := box4_ hbx)
    (obtain ⟨bx0, bx1, bx2, bx3, bx4, bx5, bx6, bx7, bx8, bx9, bx10, bx11, bx12⟩ := box13_ hqx)
    clear hbx hqx
    have ES : Hid (stepF p r = tickF p r.n) := by unfold stepF Hid; rw [if_neg (by rw [hkr]; decide), if_pos hkr]
    have SD := Lib.hid (tick_any W1 base pb p A c (H.out.fr HF1.out).plM h12 r.n (Nat.le_trans hbw HF1.out.size))
    rw [← ES.out] at SD
    go_wp2_with fail
    (with_reducible refine (SD.out).mono ?_)
    rintro e w6 ⟨rfl, hb6, hp6⟩
    have HB6 : Hid (Chg (PlS base pb) w w6) := HF1.out.chg.trans hb6
    have HP6 := Lib.hid hp6
    clear hb6 hp6 SD
    go_wp2_with fail
    go_ret
    exact ⟨rfl, HB6.out, fun _ => HP6.out⟩
end Go.Proofs.YtmiaplgfbphfmaaGreatDoor
