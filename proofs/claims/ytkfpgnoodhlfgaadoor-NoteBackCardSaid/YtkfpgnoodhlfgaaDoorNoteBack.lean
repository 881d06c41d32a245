/- NoteBack: what is printed is read, what is read is printed as it was. Condition: the library's variables are laid. -/
import Derived.Test.YtkfpgnoodhlfgaaDoorLined
import Derived.Deep.DeepCutAuto
import Derived.Deep.Cut
set_option linter.unusedSimpArgs false
set_option linter.unusedVariables false
namespace Go.Proofs.YtkfpgnoodhlfgaaDoor
open Go.RowKit
attribute [local irreducible] wpList

theorem printF_cases (r : Rc) : (recCheck r ≠ 0 ∧ printF r = ([], recCheck r)) ∨ (recCheck r = 0 ∧ printF r = (recText r, 0)) := by
  unfold printF
  by_cases h : recCheck r = 0
  · exact .inr ⟨h, by rw [if_neg (by simp [h])]⟩
  · exact .inl ⟨h, if_pos h⟩
theorem parse_print {r : Rc} (h : recCheck r = 0) : parseF (recText r) = (r, 0) := by
  unfold parseF; rw [if_neg (by have := recText_len4 h; omega)]; exact read_print h
theorem print_parse {s : List UInt8} {r : Rc} (h : parseF s = (r, 0)) : printF r = (s, 0) := by
  unfold parseF at h
  split at h
  · simp only [Prod.mk.injEq] at h; exact absurd h.2 (by decide)
  · obtain ⟨h1, h2⟩ := print_read h
    unfold printF
    rw [if_neg (by simp [h2]), h1]
/-- note.Parse, its record told by its cells. -/
theorem parse_out {w w' : World} {x : Rc} {xe : Int} {e : Ending} (h : RPost w (x, xe) e w') : ∃ B n c B2 n2 c2, e = .returned (.tuple #[.agg #[.int .i64 x.kind, .int .i64 x.place, .int .i64 x.n, .int .i64 x.try_, .int .i64 x.h.frm, .int .i64 x.h.seq, .int .i64 x.h.to, .int .i64 x.h.till, .int .i64 x.h.bytes, .int .i64 x.h.block, .int .i64 x.s.id, .slice B n c, .slice B2 n2 c2], .int .i64 xe]) ∧ x.wf ∧ Byt w' (LT w'.heap.size) B n c x.s.data ∧ Byt w' (LT w'.heap.size) B2 n2 c2 x.cargo ∧ Fr w w' := by
  obtain ⟨B, n, c, B2, n2, c2, he, hw, h1, h2, h3⟩ := h
  exact ⟨B, n, c, B2, n2, c2, he, hw, ⟨h1.1, h1.2.nw sByte⟩, ⟨h2.1, h2.2.nw sByte⟩, h3⟩
set_option maxRecDepth 100000 in
set_option maxHeartbeats 16000000 in
theorem noteBack_law (w : World) (v : Vars w) (r : Rc) (A : Option Addr) (na ca : Nat) (A2 : Option Addr) (na2 ca2 : Nat) (hr : r.wf) (hA : Byt w (LT w.heap.size) A na ca r.s.data) (hA2 : Byt w (LT w.heap.size) A2 na2 ca2 r.cargo) (q : Rc) (B : Option Addr) (nb cb : Nat) (B2 : Option Addr) (nb2 cb2 : Nat) (hq : q.wf) (hB : Byt w (LT w.heap.size) B nb cb q.s.data) (hB2 : Byt w (LT w.heap.size) B2 nb2 cb2 q.cargo) (s : List UInt8) (hs : s.length ≤ lim) :
    Calls Tryd.prog 3 #[.agg #[.int .i64 r.kind, .int .i64 r.place, .int .i64 r.n, .int .i64 r.try_, .int .i64 r.h.frm, .int .i64 r.h.seq, .int .i64 r.h.to, .int .i64 r.h.till, .int .i64 r.h.bytes, .int .i64 r.h.block, .int .i64 r.s.id, .slice A na ca, .slice A2 na2 ca2], .agg #[.int .i64 q.kind, .int .i64 q.place, .int .i64 q.n, .int .i64 q.try_, .int .i64 q.h.frm, .int .i64 q.h.seq, .int .i64 q.h.to, .int .i64 q.h.till, .int .i64 q.h.bytes, .int .i64 q.h.block, .int .i64 q.s.id, .slice B nb cb, .slice B2 nb2 cb2], sV s] w fun e w' => e = .returned (.bool true) ∧ Fr w w' := by
  obtain ⟨W1, hW1⟩ : ∃ W1, W1 = (w.alloc (.cells #[.int .i64 r.kind, .int .i64 r.place, .int .i64 r.n, .int .i64 r.try_, .int .i64 r.h.frm, .int .i64 r.h.seq, .int .i64 r.h.to, .int .i64 r.h.till, .int .i64 r.h.bytes, .int .i64 r.h.block, .int .i64 r.s.id, .slice A na ca, .slice A2 na2 ca2] 31)).alloc (.cells #[.int .i64 q.kind, .int .i64 q.place, .int .i64 q.n, .int .i64 q.try_, .int .i64 q.h.frm, .int .i64 q.h.seq, .int .i64 q.h.to, .int .i64 q.h.till, .int .i64 q.h.bytes, .int .i64 q.h.block, .int .i64 q.s.id, .slice B nb cb, .slice B2 nb2 cb2] 31) := ⟨_, rfl⟩
  obtain ⟨p, hp⟩ : ∃ p, p = w.heap.size := ⟨_, rfl⟩
  obtain ⟨z, hz⟩ : ∃ z, z = w.heap.size + 1 := ⟨_, rfl⟩
  have hp1 : W1.heap[p]? = some (.cells #[.int .i64 r.kind, .int .i64 r.place, .int .i64 r.n, .int .i64 r.try_, .int .i64 r.h.frm, .int .i64 r.h.seq, .int .i64 r.h.to, .int .i64 r.h.till, .int .i64 r.h.bytes, .int .i64 r.h.block, .int .i64 r.s.id, .slice A na ca, .slice A2 na2 ca2] 31 (0, 0)) := by rw [hW1]; exact heap_old (heap_new hp)
  have hz1 : W1.heap[z]? = some (.cells #[.int .i64 q.kind, .int .i64 q.place, .int .i64 q.n, .int .i64 q.try_, .int .i64 q.h.frm, .int .i64 q.h.seq, .int .i64 q.h.to, .int .i64 q.h.till, .int .i64 q.h.bytes, .int .i64 q.h.block, .int .i64 q.s.id, .slice B nb cb, .slice B2 nb2 cb2] 31 (0, 0)) := by rw [hW1]; exact heap_new (by rw [hz]; simp)
  have HF1 : Hid (Fr w W1) := by rw [hW1]; exact (frAlloc _ _).trans (frAlloc _ _)
  have HP1 := Lib.hid hp1
  have HZ1 := Lib.hid hz1
  obtain ⟨tr, er, hpr⟩ : ∃ tr er, printF r = (tr, er) := ⟨_, _, rfl⟩
  obtain ⟨tq, eq, hpq⟩ : ∃ tq eq, printF q = (tq, eq) := ⟨_, _, rfl⟩
  have CR : Hid (∀ W, Fr w W → Calls Tryd.prog 6 #[.agg #[.int .i64 r.kind, .int .i64 r.place, .int .i64 r.n, .int .i64 r.try_, .int .i64 r.h.frm, .int .i64 r.h.seq, .int .i64 r.h.to, .int .i64 r.h.till, .int .i64 r.h.bytes, .int .i64 r.h.block, .int .i64 r.s.id, .slice A na ca, .slice A2 na2 ca2]] W fun e w' => e = .returned (.tuple #[sV tr, .int .i64 er]) ∧ Fr W w') := fun W hf => by
    have := notePrint_any W (v.go hf) r A na ca A2 na2 ca2 hr (hA.go hf) (hA2.go hf)
    rw [hpr] at this
    exact this
  have CQ : Hid (∀ W, Fr w W → Calls Tryd.prog 6 #[.agg #[.int .i64 q.kind, .int .i64 q.place, .int .i64 q.n, .int .i64 q.try_, .int .i64 q.h.frm, .int .i64 q.h.seq, .int .i64 q.h.to, .int .i64 q.h.till, .int .i64 q.h.bytes, .int .i64 q.h.block, .int .i64 q.s.id, .slice B nb cb, .slice B2 nb2 cb2]] W fun e w' => e = .returned (.tuple #[sV tq, .int .i64 eq]) ∧ Fr W w') := fun W hf => by
    have := notePrint_any W (v.go hf) q B nb cb B2 nb2 cb2 hq (hB.go hf) (hB2.go hf)
    rw [hpq] at this
    exact this
  have CS : Hid (∀ W, Fr w W → Calls Tryd.prog 8 #[.agg #[.int .i64 r.kind, .int .i64 r.place, .int .i64 r.n, .int .i64 r.try_, .int .i64 r.h.frm, .int .i64 r.h.seq, .int .i64 r.h.to, .int .i64 r.h.till, .int .i64 r.h.bytes, .int .i64 r.h.block, .int .i64 r.s.id, .slice A na ca, .slice A2 na2 ca2], .agg #[.int .i64 q.kind, .int .i64 q.place, .int .i64 q.n, .int .i64 q.try_, .int .i64 q.h.frm, .int .i64 q.h.seq, .int .i64 q.h.to, .int .i64 q.h.till, .int .i64 q.h.bytes, .int .i64 q.h.block, .int .i64 q.s.id, .slice B nb cb, .slice B2 nb2 cb2]] W fun e w' => e = .returned (.bool (decide (r = q))) ∧ Fr W w') := fun W hf => noteSame_any W r q (LT W.heap.size) (LT W.heap.size) A na ca A2 na2 ca2 B nb cb B2 nb2 cb2 (hA.go hf) (hA2.go hf) (hB.go hf) (hB2.go hf)
  have HPR := Lib.hid hpr
  have HPQ := Lib.hid hpq
  have HV := Lib.hid v
  have HA := Lib.hid hA
  have HA2 := Lib.hid hA2
  have HS := Lib.hid hs
  clear hpr hpq v hA hA2 hB hB2 hr hq hs
  (obtain ⟨bp0, bp1, bp2, bp3, bp4, bp5, bp6, bp7, bp8, bp9, bp10, bp11, bp12⟩ := box13_ hp1)
  (obtain ⟨bz0, bz1, bz2, bz3, bz4, bz5, bz6, bz7, bz8, bz9, bz10, bz11, bz12⟩ := box13_ hz1)
  clear hp1 hz1
  go_enter Tryd.func3, Tryd.ntmps3
  go_upto_region 1 with fail
  rw [← hW1, ← hz, ← hp]
  clear hW1 hz hp
  go_wp2_with fail
  (with_reducible refine (CR.out _ HF1.out).mono ?_)
  rintro e w2 ⟨rfl, hf2⟩
  have HF2 : Hid (Fr w w2) := HF1.out.trans hf2
  have HP2 := Lib.hid (blk_go HP1.out hf2)
  have HZ2 := Lib.hid (blk_go HZ1.out hf2)
  have hpx := HP2.out
  have hzx := HZ2.out
  clear hf2 HP1 HZ1 HF1 CR bp0 bp1 bp2 bp3 bp4 bp5 bp6 bp7 bp8 bp9 bp10 bp11 bp12 bz0 bz1 bz2 bz3 bz4 bz5 bz6 bz7 bz8 bz9 bz10 bz11 bz12
  (obtain ⟨bp0, bp1, bp2, bp3, bp4, bp5, bp6, bp7, bp8, bp9, bp10, bp11, bp12⟩ := box13_ hpx)
  (obtain ⟨bz0, bz1, bz2, bz3, bz4, bz5, bz6, bz7, bz8, bz9, bz10, bz11, bz12⟩ := box13_ hzx)
  clear hpx hzx
  go_wp2_with fail
  (with_reducible refine (CQ.out _ HF2.out).mono ?_)
  rintro e w3 ⟨rfl, hf3⟩
  have HF3 : Hid (Fr w w3) := HF2.out.trans hf3
  have HP3 := Lib.hid (blk_go HP2.out hf3)
  have HZ3 := Lib.hid (blk_go HZ2.out hf3)
  clear hf3 HP2 HZ2 HF2 CQ bp0 bp1 bp2 bp3 bp4 bp5 bp6 bp7 bp8 bp9 bp10 bp11 bp12 bz0 bz1 bz2 bz3 bz4 bz5 bz6 bz7 bz8 bz9 bz10 bz11 bz12
  go_upto_region 3 with fail
  go_cut [44] (fun s44 wx => s44 = .bool false ∧ Hid (Fr w3 wx))
  case first =>
    go_wp2_with fail
    (with_reducible refine (lined_any _ (HV.out.go HF3.out)).mono ?_)
    rintro e w4 ⟨rfl, hf4⟩
    have HF4 : Hid (Fr w w4) := HF3.out.trans hf4
    have HF34 := Lib.hid hf4
    have HP4 := Lib.hid (blk_go HP3.out hf4)
    have HZ4 := Lib.hid (blk_go HZ3.out hf4)
    clear hf4 HP3 HZ3
    have hpx := HP4.out
    have hzx := HZ4.out
    by_cases h1 : er = 0
    case neg =>
      have t1 : (er == 0) = false := by simp [h1]
      clear h1 hpx hzx
      go_wp2_with fail
      go_meet
      exact ⟨rfl, HF34.out⟩
    case pos =>
    have t1 : (er == 0) = true := by simp [h1]
    by_cases h2 : eq = 0
    case neg =>
      have t2 : (eq == 0) = false := by simp [h2]
      clear h1 h2 hpx hzx
      go_wp2_with fail
      go_meet
      exact ⟨rfl, HF34.out⟩
    case pos =>
    have t2 : (eq == 0) = true := by simp [h2]
    have hbq : ((tr == tq) != decide (r = q)) = false := by
      have h3 := HPR.out
      have h4 := HPQ.out
      rcases printF_cases r with ⟨a1, a2⟩ | ⟨a1, a2⟩
      · rw [a2] at h3; simp only [Prod.mk.injEq] at h3; exact absurd (h3.2.trans h1) a1
      rcases printF_cases q with ⟨b1, b2⟩ | ⟨b1, b2⟩
      · rw [b2] at h4; simp only [Prod.mk.injEq] at h4; exact absurd (h4.2.trans h2) b1
      rw [a2] at h3
      rw [b2] at h4
      simp only [Prod.mk.injEq] at h3 h4
      rw [← h3.1, ← h4.1]
      by_cases hrq : r = q
      · subst hrq; simp
      · have : (recText r == recText q) = false := by
          simp only [beq_eq_false_iff_ne]
          exact fun e => hrq (recText_inj a1 b1 e)
        rw [this, decide_eq_false hrq]; rfl
    clear h1 h2
    (obtain ⟨bp0, bp1, bp2, bp3, bp4, bp5, bp6, bp7, bp8, bp9, bp10, bp11, bp12⟩ := box13_ hpx)
    (obtain ⟨bz0, bz1, bz2, bz3, bz4, bz5, bz6, bz7, bz8, bz9, bz10, bz11, bz12⟩ := box13_ hzx)
    clear hpx hzx
    go_wp2_with fail
    (with_reducible refine (CS.out _ HF4.out).mono ?_)
    rintro e w5 ⟨rfl, hf5⟩
    clear bp0 bp1 bp2 bp3 bp4 bp5 bp6 bp7 bp8 bp9 bp10 bp11 bp12 bz0 bz1 bz2 bz3 bz4 bz5 bz6 bz7 bz8 bz9 bz10 bz11 bz12
    go_wp2_with fail
    go_meet
    exact ⟨congrArg Value.bool hbq, HF34.out.trans hf5⟩
  case rest =>
  obtain ⟨rfl, hcf⟩ := hcut
  have HF5 : Hid (Fr w wc) := HF3.out.trans hcf.out
  have HP5 := Lib.hid (blk_go HP3.out hcf.out)
  clear hcf HP3 HZ3 HF3 CS
  obtain ⟨x, xe, hps⟩ : ∃ x xe, parseF s = (x, xe) := ⟨_, _, rfl⟩
  have CX : Hid (∀ W, Fr w W → Calls Tryd.prog 9 #[sV s] W (RPost W (x, xe))) := fun W hf => by rw [← hps]; exact noteParse_any W (HV.out.go hf) s HS.out
  have HPS := Lib.hid hps
  clear hps HS
  go_upto_if 46 with fail
  go_cut [8] (fun s8 wx => s8 = .int .i64 er ∧ Hid (Fr w wx))
  case first =>
    by_cases h1 : er = 0
    case neg =>
      have t1 : (er == 0) = false := by simp [h1]
      clear h1
      go_wp2_with fail
      go_meet
      exact ⟨rfl, HF5⟩
    case pos =>
    have t1 : (er == 0) = true := by simp [h1]
    have hrt : tr = recText r ∧ recCheck r = 0 := by
      have h3 := HPR.out
      rcases printF_cases r with ⟨a1, a2⟩ | ⟨a1, a2⟩
      · rw [a2] at h3; simp only [Prod.mk.injEq] at h3; exact absurd (h3.2.trans h1) a1
      · rw [a2] at h3; simp only [Prod.mk.injEq] at h3; exact ⟨h3.1.symm, a1⟩
    have CT : Hid (Calls Tryd.prog 9 #[sV tr] wc (RPost wc (r, 0))) := by
      have := noteParse_any wc (HV.out.go HF5.out) tr (by rw [hrt.1]; have := recText_len4 hrt.2; unfold lim; omega)
      rw [hrt.1, parse_print hrt.2] at this
      rw [hrt.1]
      exact this
    clear h1 hrt
    go_wp2_with fail
    (with_reducible refine (CT.out).mono ?_)
    rintro e w6 h6
    obtain ⟨D, n, c, D2, n2, c2, rfl, _, hd, hd2, hf6⟩ := parse_out h6
    have HF6 : Hid (Fr w w6) := HF5.out.trans hf6
    have HP6 := Lib.hid (blk_go HP5.out hf6)
    have HD := Lib.hid hd
    have HD2 := Lib.hid hd2
    clear h6 hd hd2 hf6 CT HP5
    go_upto_region 7 with fail
    obtain ⟨y, hy⟩ : ∃ y, y = w6.heap.size := ⟨_, rfl⟩
    obtain ⟨W7, hW7⟩ : ∃ W7, W7 = w6.alloc (.cells #[.int .i64 r.kind, .int .i64 r.place, .int .i64 r.n, .int .i64 r.try_, .int .i64 r.h.frm, .int .i64 r.h.seq, .int .i64 r.h.to, .int .i64 r.h.till, .int .i64 r.h.bytes, .int .i64 r.h.block, .int .i64 r.s.id, .slice D n c, .slice D2 n2 c2] 31) := ⟨_, rfl⟩
    rw [← hW7, ← hy]
    have hy7 : W7.heap[y]? = some (.cells #[.int .i64 r.kind, .int .i64 r.place, .int .i64 r.n, .int .i64 r.try_, .int .i64 r.h.frm, .int .i64 r.h.seq, .int .i64 r.h.to, .int .i64 r.h.till, .int .i64 r.h.bytes, .int .i64 r.h.block, .int .i64 r.s.id, .slice D n c, .slice D2 n2 c2] 31 (0, 0)) := by rw [hW7]; exact heap_new hy
    have hf7 : Fr w6 W7 := by rw [hW7]; exact frAlloc _ _
    have hp7 := blk_go HP6.out hf7
    have HF7 : Hid (Fr w W7) := HF6.out.trans hf7
    have CU : Hid (Calls Tryd.prog 8 #[.agg #[.int .i64 r.kind, .int .i64 r.place, .int .i64 r.n, .int .i64 r.try_, .int .i64 r.h.frm, .int .i64 r.h.seq, .int .i64 r.h.to, .int .i64 r.h.till, .int .i64 r.h.bytes, .int .i64 r.h.block, .int .i64 r.s.id, .slice D n c, .slice D2 n2 c2], .agg #[.int .i64 r.kind, .int .i64 r.place, .int .i64 r.n, .int .i64 r.try_, .int .i64 r.h.frm, .int .i64 r.h.seq, .int .i64 r.h.to, .int .i64 r.h.till, .int .i64 r.h.bytes, .int .i64 r.h.block, .int .i64 r.s.id, .slice A na ca, .slice A2 na2 ca2]] W7 fun e w' => e = .returned (.bool true) ∧ Fr W7 w') := by
      have := noteSame_any W7 r r (LT W7.heap.size) (LT W7.heap.size) D n c D2 n2 c2 A na ca A2 na2 ca2 (HD.out.go hf7) (HD2.out.go hf7) (HA.out.go HF7.out) (HA2.out.go HF7.out)
      rw [decide_eq_true (rfl : r = r)] at this
      exact this
    (obtain ⟨by0, by1, by2, by3, by4, by5, by6, by7, by8, by9, by10, by11, by12⟩ := box13_ hy7)
    (obtain ⟨bp0, bp1, bp2, bp3, bp4, bp5, bp6, bp7, bp8, bp9, bp10, bp11, bp12⟩ := box13_ hp7)
    clear hy hW7 hy7 hf7 hp7 HD HD2
    go_wp2_with fail
    (with_reducible refine (CU.out).mono ?_)
    rintro e w8 ⟨rfl, hf8⟩
    have HF8 : Hid (Fr w w8) := HF7.out.trans hf8
    clear hf8 by0 by1 by2 by3 by4 by5 by6 by7 by8 by9 by10 by11 by12 bp0 bp1 bp2 bp3 bp4 bp5 bp6 bp7 bp8 bp9 bp10 bp11 bp12
    go_wp2_with fail
    go_meet
    exact ⟨rfl, HF8⟩
  case rest =>
  obtain ⟨rfl, HF9⟩ := hcut
  go_wp2_with fail
  (with_reducible refine (CX.out _ HF9.out).mono ?_)
  rintro e w6 h6
  obtain ⟨D, n, c, D2, n2, c2, rfl, hwx, hd, hd2, hf6⟩ := parse_out h6
  have HF6 : Hid (Fr w w6) := HF9.out.trans hf6
  have HD := Lib.hid hd
  have HD2 := Lib.hid hd2
  have HWX := Lib.hid hwx
  clear h6 hd hd2 hf6 CX hwx
  go_upto_region 10 with fail
  obtain ⟨y, hy⟩ : ∃ y, y = w6.heap.size := ⟨_, rfl⟩
  obtain ⟨W7, hW7⟩ : ∃ W7, W7 = w6.alloc (.cells #[.int .i64 x.kind, .int .i64 x.place, .int .i64 x.n, .int .i64 x.try_, .int .i64 x.h.frm, .int .i64 x.h.seq, .int .i64 x.h.to, .int .i64 x.h.till, .int .i64 x.h.bytes, .int .i64 x.h.block, .int .i64 x.s.id, .slice D n c, .slice D2 n2 c2] 31) := ⟨_, rfl⟩
  rw [← hW7, ← hy]
  have hy7 : W7.heap[y]? = some (.cells #[.int .i64 x.kind, .int .i64 x.place, .int .i64 x.n, .int .i64 x.try_, .int .i64 x.h.frm, .int .i64 x.h.seq, .int .i64 x.h.to, .int .i64 x.h.till, .int .i64 x.h.bytes, .int .i64 x.h.block, .int .i64 x.s.id, .slice D n c, .slice D2 n2 c2] 31 (0, 0)) := by rw [hW7]; exact heap_new hy
  have hf7 : Fr w6 W7 := by rw [hW7]; exact frAlloc _ _
  have HF7 : Hid (Fr w W7) := HF6.out.trans hf7
  have HF67 := Lib.hid hf7
  clear hy hW7 hf7
  by_cases h1 : xe = 0
  case neg =>
    have t1 : (xe != 0) = true := by simp [h1]
    clear h1 hy7
    go_wp2_with fail
    go_ret
    exact ⟨rfl, HF7.out⟩
  case pos =>
  have t1 : (xe != 0) = false := by simp [h1]
  have CY : Hid (Calls Tryd.prog 6 #[.agg #[.int .i64 x.kind, .int .i64 x.place, .int .i64 x.n, .int .i64 x.try_, .int .i64 x.h.frm, .int .i64 x.h.seq, .int .i64 x.h.to, .int .i64 x.h.till, .int .i64 x.h.bytes, .int .i64 x.h.block, .int .i64 x.s.id, .slice D n c, .slice D2 n2 c2]] W7 fun e w' => e = .returned (.tuple #[sV s, .int .i64 0]) ∧ Fr W7 w') := by
    have := notePrint_any W7 (HV.out.go HF7.out) x D n c D2 n2 c2 HWX.out (HD.out.go HF67.out) (HD2.out.go HF67.out)
    rw [print_parse (h1 ▸ HPS.out)] at this
    exact this
  (obtain ⟨by0, by1, by2, by3, by4, by5, by6, by7, by8, by9, by10, by11, by12⟩ := box13_ hy7)
  have te : (s == s) = true := by simp
  clear h1 hy7
  go_wp2_with fail
  (with_reducible refine (CY.out).mono ?_)
  rintro e w8 ⟨rfl, hf8⟩
  have HF8 : Hid (Fr w w8) := HF7.out.trans hf8
  clear hf8 by0 by1 by2 by3 by4 by5 by6 by7 by8 by9 by10 by11 by12
  go_wp2_with fail
  go_ret
  exact ⟨by simp, HF8.out⟩
theorem noteBackLaw.noteBack_any (w : World) (v : Vars w) (r : Rc) (A : Option Addr) (na ca : Nat) (A2 : Option Addr) (na2 ca2 : Nat) (hr : r.wf) (hA : Byt w (LT w.heap.size) A na ca r.s.data) (hA2 : Byt w (LT w.heap.size) A2 na2 ca2 r.cargo) (q : Rc) (B : Option Addr) (nb cb : Nat) (B2 : Option Addr) (nb2 cb2 : Nat) (hq : q.wf) (hB : Byt w (LT w.heap.size) B nb cb q.s.data) (hB2 : Byt w (LT w.heap.size) B2 nb2 cb2 q.cargo) (s : List UInt8) (hs : s.length ≤ lim) :
    Calls Tryd.prog 3 #[.agg #[.int .i64 r.kind, .int .i64 r.place, .int .i64 r.n, .int .i64 r.try_, .int .i64 r.h.frm, .int .i64 r.h.seq, .int .i64 r.h.to, .int .i64 r.h.till, .int .i64 r.h.bytes, .int .i64 r.h.block, .int .i64 r.s.id, .slice A na ca, .slice A2 na2 ca2], .agg #[.int .i64 q.kind, .int .i64 q.place, .int .i64 q.n, .int .i64 q.try_, .int .i64 q.h.frm, .int .i64 q.h.seq, .int .i64 q.h.to, .int .i64 q.h.till, .int .i64 q.h.bytes, .int .i64 q.h.block, .int .i64 q.s.id, .slice B nb cb, .slice B2 nb2 cb2], sV s] w fun e w' => e = .returned (.bool true) ∧ Fr w w' :=
  noteBack_law w v r A na ca A2 na2 ca2 hr hA hA2 q B nb cb B2 nb2 cb2 hq hB hB2 s hs
end Go.Proofs.YtkfpgnoodhlfgaaDoor
