/- way.Send, way.Take. No condition. -/
import Derived.Test.YtahkpbenebmmdaaWayCopy
import Derived.Test.YtahkpbenebmmdaaWayC
import Derived.Test.YtahkpbenebmmdaaConcat
set_option linter.unusedSimpArgs false
set_option linter.unusedVariables false
namespace Go.Proofs.Ytahkpbenebmmdaa
open Go.RowKit
attribute [local irreducible] wpList

def mlSend (ls : List Ml) (m : Ml) : List Ml × Int := if mlCheck ls ≠ 0 then ([], mlCheck ls) else if mlCheck [m] ≠ 0 then ([], mlCheck [m]) else (if ls.length < 40 then ls ++ [m] else ls, 0)

/-- One mail, laid in a row. -/
theorem Sl.mail {w : World} {b : Nat} {t : TypeId} {fr : Nat × Nat} {S : Nat → Prop} {m : Ml} {A : Option Addr} {n c : Nat} (hb : w.heap[b]? = some (.cells #[.int .i64 m.frm, .int .i64 m.to, .int .i64 m.f.kind, .int .i64 m.f.h.frm, .int .i64 m.f.h.seq, .int .i64 m.f.h.to, .int .i64 m.f.h.till, .int .i64 m.f.h.bytes, .int .i64 m.f.h.block, .int .i64 m.f.s.id, .slice A n c, .int .i64 m.f.n, .int .i64 m.f.try_] t fr)) (hS : S b) (hw : m.wf) (hy : Byt w S A n c m.f.s.data) : Sl 13 eMl w S (some ⟨b, 0, none⟩) 1 [m] :=
  .lit hb hS rfl fun i x hx => by
    obtain rfl : i = 0 := by have := (List.getElem?_eq_some_iff.1 hx).1; simp at this; omega
    obtain rfl : m = x := by simpa using hx
    exact eMl_iff.2 ⟨A, n, c, by simp, hw, hy⟩

set_option maxRecDepth 100000 in
set_option maxHeartbeats 1000000 in
theorem waySend_any (w : World) (A : Option Addr) (n c : Nat) (ls : List Ml) (h : Sl 13 eMl w (LT w.heap.size) A n ls) (hm : n * 120 ≤ lim) (m : Ml) (A' : Option Addr) (n' c' : Nat) (hw : m.wf) (hy : Byt w (LT w.heap.size) A' n' c' m.f.s.data) :
    Calls Try.prog 46 #[.slice A n c, .agg #[.int .i64 m.frm, .int .i64 m.to, .int .i64 m.f.kind, .int .i64 m.f.h.frm, .int .i64 m.f.h.seq, .int .i64 m.f.h.to, .int .i64 m.f.h.till, .int .i64 m.f.h.bytes, .int .i64 m.f.h.block, .int .i64 m.f.s.id, .slice A' n' c', .int .i64 m.f.n, .int .i64 m.f.try_]] w fun e w' => ∃ v, e = .returned (.tuple #[v, .int .i64 (mlSend ls m).2]) ∧ Own 13 eMl w' w.heap.size 73 v (mlSend ls m).1 ∧ Fr w w' := by
  have hnl : n ≤ lim := by omega
  have hlen := h.1
  have Hm := Lib.hid hm
  have Hw := Lib.hid hw
  have i0 : ∀ (b : Nat) (W : World), (Instr.index 88 (.agg #[.slice A n c, .slice (some ⟨b, 0, none⟩) 1 1]) (.int .i64 0)).run Try.prog W = .ok (.slice A n c) W := fun _ _ => by kernel_rfl
  have i1 : ∀ (b : Nat) (W : World), (Instr.index 88 (.agg #[.slice A n c, .slice (some ⟨b, 0, none⟩) 1 1]) (.int .i64 1)).run Try.prog W = .ok (.slice (some ⟨b, 0, none⟩) 1 1) W := fun _ _ => by kernel_rfl
  have e40 : Hid ((40 : Nat) = 40) := rfl
  by_cases h1 : mlCheck ls = 0
  · have CK := Lib.hid (fun W A n c hs hn => wayCheck_any W A n c ls hs hn)
    rw [h1] at CK
    by_cases h2 : mlCheck [m] = 0
    · have CM := Lib.hid (fun W A n c hs hn => wayCheck_any W A n c [m] hs hn)
      rw [h2] at CM
      have hn40 : n ≤ 40 := by
        unfold mlCheck at h1
        split at h1
        · cases h1
        · omega
      have E : Hid (mlSend ls m = (if n < 40 then ls ++ [m] else ls, 0)) := by unfold mlSend Hid; rw [if_neg (by simp [h1]), if_neg (by simp [h2]), hlen]
      (have H := Lib.hid h; clear h; have Hy := Lib.hid hy; clear hy; have H1 := Lib.hid h1; clear h1; have H2 := Lib.hid h2; clear h2; have Hlen := Lib.hid hlen; clear hlen; have Hm := Lib.hid hm; clear hm; have Hnl := Lib.hid hnl; clear hnl)
      go_enter Try.func46, Try.ntmps46
      go_wp2_with fail
      refine wp_loop_rounds 3 ?_
      rw [rounds_succ]
      go_wp2_with fail
      (with_reducible refine (CK.out _ _ _ _ (H.out.go sMl (by (repeat' (first | exact Below.refl _ _ | refine below_drewN ?_ _ | refine Below.drew ?_ | refine frA ?_ _)))) Hnl.out).mono ?_)
      rintro e w1 ⟨rfl, hf1⟩
      have hbx : w1.heap[w.heap.size]? = some (.cells #[.int .i64 m.frm, .int .i64 m.to, .int .i64 m.f.kind, .int .i64 m.f.h.frm, .int .i64 m.f.h.seq, .int .i64 m.f.h.to, .int .i64 m.f.h.till, .int .i64 m.f.h.bytes, .int .i64 m.f.h.block, .int .i64 m.f.s.id, .slice A' n' c', .int .i64 m.f.n, .int .i64 m.f.try_] 73 (0, 0)) := blk_go (heap_old (heap_new rfl)) hf1
      have hbm : w1.heap[w.heap.size + 1]? = some (.cells #[.int .i64 m.frm, .int .i64 m.to, .int .i64 m.f.kind, .int .i64 m.f.h.frm, .int .i64 m.f.h.seq, .int .i64 m.f.h.to, .int .i64 m.f.h.till, .int .i64 m.f.h.bytes, .int .i64 m.f.h.block, .int .i64 m.f.s.id, .slice A' n' c', .int .i64 m.f.n, .int .i64 m.f.try_] 73 (0, 0)) := blk_go (heap_new (by simp)) hf1
      have hF1 : Fr w w1 := Fr.trans ((frAlloc _ _).trans (frAlloc _ _)) hf1
      clear hf1
      (have Hbm := Lib.hid hbm; clear hbm; have HF1 := Lib.hid hF1; clear hF1)
      go_wp2_with fail
      rw [rounds_succ]
      go_wp2_with fail
      (with_reducible refine (CM.out _ _ _ _ (Sl.mail Hbm.out (blk_LT Hbm.out) hw (Hy.out.go HF1.out)) (by unfold lim; omega)).mono ?_)
      rintro e w2 ⟨rfl, hf2⟩
      have Hbx2 := Lib.hid (blk_go hbx hf2)
      clear hbx
      (have Hf2 := Lib.hid hf2; clear hf2)
      go_wp2_with fail
      rw [rounds_succ]
      go_wp2_with fail
      (with_reducible refine (wayCopy_any _ _ _ _ ls (H.out.go sMl (by (repeat' (first | exact Below.refl _ _ | refine below_drewN ?_ _ | refine Below.drew ?_ | refine frA ?_ _ | refine Fr.trans ?_ Hf2.out | refine Fr.trans ?_ HF1.out)))) Hm.out).mono ?_)
      rintro e w3 ⟨v3, rfl, ho3, hf3⟩
      obtain ⟨A3, c3, rfl, ⟨hc3, hm3⟩, hs3⟩ := (ho3.own sMl).slC sMl (by decide)
      rw [Hlen.out] at hc3 ho3 ⊢
      have hF3 : Fr w w3 := (HF1.out.trans Hf2.out).trans hf3
      have hF23 : Below w.heap.size w w3 := hF3
      have hO3 := (ho3.own sMl).lower (base' := w.heap.size) (HF1.out.trans Hf2.out).size
      have hbx3 : Hid (w3.heap[w.heap.size]? = some (.cells #[.int .i64 m.frm, .int .i64 m.to, .int .i64 m.f.kind, .int .i64 m.f.h.frm, .int .i64 m.f.h.seq, .int .i64 m.f.h.to, .int .i64 m.f.h.till, .int .i64 m.f.h.bytes, .int .i64 m.f.h.block, .int .i64 m.f.s.id, .slice A' n' c', .int .i64 m.f.n, .int .i64 m.f.try_] 73 (0, 0))) := blk_go Hbx2.out hf3
      clear hs3 ho3 hf3
      (obtain ⟨hb0, hb1, hb2, hb3, hb4, hb5, hb6, hb7, hb8, hb9, hb10, hb11, hb12⟩ := box13_ hbx3.out)
      (have HF3 := Lib.hid hF3; clear hF3; have HO3 := Lib.hid hO3; clear hO3)
      by_cases hl40 : n < 40
      · have hEn : Hid (mlSend ls m = (ls ++ [m], 0)) := by rw [Hid, E.out, if_pos hl40]
        go_wp2_with fail
        (with_reducible refine (wayCopy_any _ _ _ _ [m] (Sl.mail (heap_new rfl) (by simp [LT]) hw (Hy.out.go (HF3.out.trans (frAlloc _ _)))) (by unfold lim; omega)).mono ?_)
        rintro e w4 ⟨v4, rfl, ho4, hf4⟩
        obtain ⟨g4, cap4, cs4, rest4, rfl, hbg4, hg4, hc4, hm4, hl4, _, h14, hr4⟩ := ownR_row fMl (by decide) ho4 (by simp)
        have hF34 : Fr w3 w4 := (frAlloc _ _).trans hf4
        have hO4 := HO3.out.fr sMl hF34
        have hHB : Hid (Below w.heap.size w w4) := Fr.trans HF3.out hF34
        have hOl : Hid (∀ b, (Value.slice A3 n c3).ownBlock = some b → b < w3.heap.size) := fun b hb => by
          obtain ⟨cs, ho, _⟩ := HO3.out
          exact (ho.lt b hb).2
        have Hll := Lib.hid Hlen.out
        (have HO4 := Lib.hid hO4; clear hO4; have Hg4 := Lib.hid hg4; clear hg4; have Hl4 := Lib.hid hl4; clear hl4; have H14 := Lib.hid h14; clear h14; have Hr4 := Lib.hid hr4; clear hr4; have HF34 := Lib.hid hF34; clear hF34; have HEn := Lib.hid hEn; clear hEn)
        clear hbg4
        go_wp2_with (at_builtin; refine wpList_apps _ rfl _ _ 67 rfl w.heap.size 73 (.agg #[.int .i64 0, .int .i64 0, .int .i64 0, .int .i64 0, .int .i64 0, .int .i64 0, .int .i64 0, .int .i64 0, .int .i64 0, .int .i64 0, .slice none 0 0, .int .i64 0, .int .i64 0]) 13 120 Try.underlying67 infoMail rfl (by decide) sMl _ ls rfl HO4.out ⟨g4, 0, none⟩ 1 cap4 cs4 rfl ?c1 ?c2 H14.out [m] rfl ?c3 ?c4 ?c5 ?c6 ?_)
        case c1 => exact Hl4.out
        case c2 => intro j u hu; rw [zero_add_addr]; exact cells_at Hg4.out hu
        case c3 =>
          intro i x hx
          refine sMl.more (fun b hb => ⟨hb.2.1, fun e => ?_⟩) (Hr4.out i x hx)
          have h1 := hOl.out b e
          have h2 := hb.1
          simp at h2
          omega
        case c4 => have := Hll.out; unfold maxLen; omega
        case c5 => have := Hll.out; unfold lim; omega
        case c6 => exact hHB.out.size
        · intro v5 w5 ho5 hg5 hge5
          have HO5 := Lib.hid ho5
          have HF5 : Hid (Fr w w5) := hHB.out.grown hg5 hHB.out.size hge5
          clear ho5 hg5 hge5
          go_wp2_with fail
          go_ret2
          rw [HEn.out]
          exact ⟨_, rfl, HO5.out, HF5.out⟩
      · have hEn : Hid (mlSend ls m = (ls, 0)) := by rw [Hid, E.out, if_neg hl40]
        go_wp2_with fail
        go_ret2
        rw [hEn.out]
        exact ⟨_, rfl, HO3.out, HF3.out⟩
    · have E : Hid (mlSend ls m = ([], mlCheck [m])) := by unfold mlSend Hid; rw [if_neg (by simp [h1]), if_pos h2]
      have e1 : (mlCheck [m] != 0) = true := by simpa using h2
      (have H := Lib.hid h; clear h; have Hy := Lib.hid hy; clear hy; have H1 := Lib.hid h1; clear h1; have H2 := Lib.hid h2; clear h2; have Hlen := Lib.hid hlen; clear hlen; have Hm := Lib.hid hm; clear hm; have Hnl := Lib.hid hnl; clear hnl)
      go_enter Try.func46, Try.ntmps46
      go_wp2_with fail
      refine wp_loop_rounds 2 ?_
      rw [rounds_succ]
      go_wp2_with fail
      (with_reducible refine (CK.out _ _ _ _ (H.out.go sMl (by (repeat' (first | exact Below.refl _ _ | refine below_drewN ?_ _ | refine Below.drew ?_ | refine frA ?_ _)))) Hnl.out).mono ?_)
      rintro e w1 ⟨rfl, hf1⟩
      have hbm : w1.heap[w.heap.size + 1]? = some (.cells #[.int .i64 m.frm, .int .i64 m.to, .int .i64 m.f.kind, .int .i64 m.f.h.frm, .int .i64 m.f.h.seq, .int .i64 m.f.h.to, .int .i64 m.f.h.till, .int .i64 m.f.h.bytes, .int .i64 m.f.h.block, .int .i64 m.f.s.id, .slice A' n' c', .int .i64 m.f.n, .int .i64 m.f.try_] 73 (0, 0)) := blk_go (heap_new (by simp)) hf1
      have hF1 : Fr w w1 := Fr.trans ((frAlloc _ _).trans (frAlloc _ _)) hf1
      clear hf1
      (have Hbm := Lib.hid hbm; clear hbm; have HF1 := Lib.hid hF1; clear hF1)
      go_wp2_with fail
      rw [rounds_succ]
      go_wp2_with fail
      (with_reducible refine (wayCheck_any _ _ _ _ [m] (Sl.mail Hbm.out (blk_LT Hbm.out) hw (Hy.out.go HF1.out)) (by unfold lim; omega)).mono ?_)
      rintro e w2 ⟨rfl, hf2⟩
      (have Hf2 := Lib.hid hf2; clear hf2)
      go_wp2_with fail
      go_ret2
      rw [E.out]
      exact ⟨_, rfl, Own.nil, by (repeat' (first | exact Below.refl _ _ | refine below_drewN ?_ _ | refine Below.drew ?_ | refine frA ?_ _ | refine Fr.trans ?_ Hf2.out | refine Fr.trans ?_ HF1.out))⟩
  · have E : Hid (mlSend ls m = ([], mlCheck ls)) := if_pos h1
    have e1 : (mlCheck ls != 0) = true := by simpa using h1
    (have H := Lib.hid h; clear h; have Hy := Lib.hid hy; clear hy; have H1 := Lib.hid h1; clear h1; have Hlen := Lib.hid hlen; clear hlen; have Hm := Lib.hid hm; clear hm)
    go_enter Try.func46, Try.ntmps46
    go_wp2_with fail
    refine wp_loop_rounds 1 ?_
    rw [rounds_succ]
    go_wp2_with fail
    (with_reducible refine (wayCheck_any _ _ _ _ ls (H.out.go sMl (by (repeat' (first | exact Below.refl _ _ | refine below_drewN ?_ _ | refine Below.drew ?_ | refine frA ?_ _)))) hnl).mono ?_)
    rintro e w1 ⟨rfl, hf1⟩
    (have Hf1 := Lib.hid hf1; clear hf1)
    go_wp2_with fail
    go_ret2
    rw [E.out]
    exact ⟨_, rfl, Own.nil, by (repeat' (first | exact Below.refl _ _ | refine below_drewN ?_ _ | refine Below.drew ?_ | refine frA ?_ _ | refine Fr.trans ?_ Hf1.out))⟩
end Go.Proofs.Ytahkpbenebmmdaa
