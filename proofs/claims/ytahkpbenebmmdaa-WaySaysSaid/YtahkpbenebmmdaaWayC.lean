/- way.Check and the reference's CheckHead, CheckSymbol, CheckMail. No condition. -/
import Derived.Test.YtahkpbenebmmdaaHead
set_option linter.unusedSimpArgs false
set_option linter.unusedVariables false
namespace Go.Proofs.Ytahkpbenebmmdaa
open Go.RowKit
attribute [local irreducible] wpList

set_option maxHeartbeats 1000000 in
theorem wayCheck_any (w : World) (A : Option Addr) (n c : Nat) (ls : List Ml) (h : Sl 13 eMl w (LT w.heap.size) A n ls) (hm : n ≤ lim) :
    Calls Try.prog 50 #[.slice A n c] w fun e w' => e = .returned (.int .i64 (mlCheck ls)) ∧ Fr w w' := by
  unfold lim at hm
  have hlen := h.1
  by_cases h40 : 40 < n
  · have E : Hid (mlCheck ls = 2) := by unfold mlCheck; exact if_pos (by omega)
    clear h hlen
    go_enter Try.func50, Try.ntmps50
    go_wp2_with fail
    go_ret
    exact ⟨retI E.out.symm, Below.refl _ _⟩
  · have E : Hid (mlCheck ls = mlCheckL ls) := by unfold mlCheck; exact if_neg (by omega)
    clear hm
    (have H := Lib.hid h; clear h; have Hlen := Lib.hid hlen; clear hlen)
    go_enter Try.func50, Try.ntmps50
    go_wp2_with fail
    go_loopw [11] (fun i wr => ∃ k : Nat, k ≤ n ∧ i = .int .i64 k ∧ Hid (mlCheckL ls = mlCheckL (ls.drop k)) ∧ Hid (Fr w wr)) (fun i _ => n - (intOf i).toNat)
    case atStart => exact ⟨0, Nat.zero_le _, rfl, rfl, Below.refl _ _⟩
    case round =>
      obtain ⟨k, hk, rfl, HS, HF⟩ := hrel
      by_cases hlt : k < n
      · obtain ⟨ad, rfl, hE⟩ := (H.out.go sMl HF.out).els (by omega)
        obtain ⟨x, hx, hr⟩ := hE.row hlt
        obtain ⟨A', n', c', hc, hw, hby⟩ := eMl_at hr
        obtain ⟨m0, m1, m2, m3, m4, m5, m6, m7, m8, m9, m10, m11, m12⟩ := hc
        have HS' : Hid (mlCheckL ls = if mlCheck1 x ≠ 0 then mlCheck1 x else mlCheckL (ls.drop (k + 1))) := by
          rw [Hid, HS.out, drop_cons hx, mlCheckL]
        have hwf := hw.2.2
        have hbl := hby.2.1
        clear hr hE hx hby
        (have Hbl := Lib.hid hbl; clear hbl)
        go_wp2_with (go_at_call 64; refine (wayFrame_any _ _ _ _ _ hwf Hbl.out).mono ?_; rintro e w1 ⟨rfl, hf1⟩; have Hf1 := Lib.hid hf1; clear hf1)
        all_goals (try simp only [beq_iff_eq, bne_iff_ne, beq_eq_false_iff_ne, bne_eq_false_iff_eq, ne_eq, Decidable.not_not, Int.natCast_inj, Bool.or_eq_true, Bool.and_eq_true, Bool.or_eq_false_iff, Bool.and_eq_false_iff, Bool.not_eq_true', Bool.not_eq_false', decide_eq_true_eq, decide_eq_false_iff_not, Bool.not_eq_true, Bool.not_eq_false] at *)
        all_goals first
          | (go_ret; exact ⟨retI (by rw [E.out, HS'.out]; unfold mlCheck1; (repeat' split) <;> first | rfl | omega), by (repeat' (first | exact Below.refl _ _ | refine below_drewN ?_ _ | refine Below.drew ?_ | refine frA ?_ _ | refine Fr.trans ?_ Hf1.out | refine Fr.trans ?_ HF.out))⟩)
          | skip
        go_roundw
        case rel => exact ⟨k + 1, by omega, by go_num, by rw [Hid, HS'.out]; unfold mlCheck1; (repeat' split) <;> first | rfl | omega, by (repeat' (first | exact Below.refl _ _ | refine below_drewN ?_ _ | refine Below.drew ?_ | refine frA ?_ _ | refine Fr.trans ?_ Hf1.out | refine Fr.trans ?_ HF.out))⟩
        case measure => simp [intOf]; omega
      · have hf : Hid (mlCheckL ls = 0) := by rw [Hid, HS.out, List.drop_eq_nil_of_le (by have := Hlen.out; omega)]; rfl
        go_wp2_with fail
        go_ret
        exact ⟨retI (by rw [E.out, hf.out]), HF.out⟩

set_option maxHeartbeats 1000000 in
theorem refHead_any (w : World) (h : Hd) (hw : h.wf) : Calls Try.prog 61 #[.agg #[.int .i64 h.frm, .int .i64 h.seq, .int .i64 h.to, .int .i64 h.till, .int .i64 h.bytes, .int .i64 h.block]] w fun e w' => e = .returned (.int .i64 (hdCheck h)) ∧ Fr w w' := by
  obtain ⟨_, _, _, _, wB, wK⟩ := hw
  by_cases hb : h.frm < 0 ∨ 4 ≤ h.frm ∨ h.to < 0 ∨ 4 ≤ h.to ∨ h.seq < 0 ∨ 50 ≤ h.seq ∨ h.till < 1 ∨ 1000000 < h.till
  · have E : Hid (hdCheck h = 3) := if_pos hb
    by_cases h1 : 0 ≤ h.frm ∧ h.frm ≤ 3
    · have r1 := inR_t h1
      by_cases h2 : 0 ≤ h.to ∧ h.to ≤ 3
      · have r2 := inR_t h2
        by_cases h3 : 0 ≤ h.seq ∧ h.seq ≤ 49
        · have r3 := inR_t h3
          have r4 : inR h.till 1 1000000 = false := inR_f (by omega)
          clear hb h1 h2 h3
          go_enter Try.func61, Try.ntmps61
          go_wp2_with (go_at_call 55; refine (in_any _ _ _ _).mono ?_; rintro e w' ⟨rfl, rfl⟩)
          go_ret
          exact ⟨retI E.out.symm, (by (repeat' (first | exact Below.refl _ _ | refine below_drewN ?_ _ | refine Below.drew ?_ | refine frA ?_ _ | refine Fr.trans ?_ Hf1.out)))⟩
        · have r3 := inR_f h3
          clear hb h1 h2 h3
          go_enter Try.func61, Try.ntmps61
          go_wp2_with (go_at_call 55; refine (in_any _ _ _ _).mono ?_; rintro e w' ⟨rfl, rfl⟩)
          go_ret
          exact ⟨retI E.out.symm, (by (repeat' (first | exact Below.refl _ _ | refine below_drewN ?_ _ | refine Below.drew ?_ | refine frA ?_ _ | refine Fr.trans ?_ Hf1.out)))⟩
      · have r2 := inR_f h2
        clear hb h1 h2
        go_enter Try.func61, Try.ntmps61
        go_wp2_with (go_at_call 55; refine (in_any _ _ _ _).mono ?_; rintro e w' ⟨rfl, rfl⟩)
        go_ret
        exact ⟨retI E.out.symm, (by (repeat' (first | exact Below.refl _ _ | refine below_drewN ?_ _ | refine Below.drew ?_ | refine frA ?_ _ | refine Fr.trans ?_ Hf1.out)))⟩
    · have r1 := inR_f h1
      clear hb h1
      go_enter Try.func61, Try.ntmps61
      go_wp2_with (go_at_call 55; refine (in_any _ _ _ _).mono ?_; rintro e w' ⟨rfl, rfl⟩)
      go_ret
      exact ⟨retI E.out.symm, (by (repeat' (first | exact Below.refl _ _ | refine below_drewN ?_ _ | refine Below.drew ?_ | refine frA ?_ _ | refine Fr.trans ?_ Hf1.out)))⟩
  · have E : Hid (hdCheck h = if h.frm = h.to then 5 else cutCheck h.bytes h.block) := if_neg hb
    have r1 : inR h.frm 0 3 = true := inR_t (by omega)
    have r2 : inR h.to 0 3 = true := inR_t (by omega)
    have r3 : inR h.seq 0 49 = true := inR_t (by omega)
    have r4 : inR h.till 1 1000000 = true := inR_t (by omega)
    clear hb
    by_cases h5 : h.frm = h.to
    · have E2 : Hid (hdCheck h = 5) := by rw [Hid, E.out, if_pos h5]
      have h6 : (h.frm == h.to) = true := by simp [h5]
      clear h5
      go_enter Try.func61, Try.ntmps61
      go_wp2_with (go_at_call 55; refine (in_any _ _ _ _).mono ?_; rintro e w' ⟨rfl, rfl⟩)
      go_ret
      exact ⟨retI E2.out.symm, (by (repeat' (first | exact Below.refl _ _ | refine below_drewN ?_ _ | refine Below.drew ?_ | refine frA ?_ _ | refine Fr.trans ?_ Hf1.out)))⟩
    · have E2 : Hid (hdCheck h = cutCheck h.bytes h.block) := by rw [Hid, E.out, if_neg h5]
      have h6 : (h.frm == h.to) = false := by simpa using h5
      clear h5
      go_enter Try.func61, Try.ntmps61
      go_wp2_with (first | (go_at_call 55; refine (in_any _ _ _ _).mono ?_; rintro e w' ⟨rfl, rfl⟩) | (go_at_call 40; refine (refCheckPlan_any _ _ _ wB wK).mono ?_; rintro e w1 ⟨rfl, hf1⟩; have Hf1 := Lib.hid hf1; clear hf1))
      go_ret
      exact ⟨retI E2.out.symm, (by (repeat' (first | exact Below.refl _ _ | refine below_drewN ?_ _ | refine Below.drew ?_ | refine frA ?_ _ | refine Fr.trans ?_ Hf1.out)))⟩

set_option maxHeartbeats 1000000 in
theorem refSymbol_any (w : World) (B K id : Int) (A : Option Addr) (n c : Nat) (wB : wfI B) (wK : wfI K) :
    Calls Try.prog 62 #[.agg #[.int .i64 B, .int .i64 K], .agg #[.int .i64 id, .slice A n c]] w fun e w' => e = .returned (.int .i64 (codeCheck B K id n)) ∧ Fr w w' := by
  have CC := Lib.hid (fun W : World => refCheckPlan_any W B K wB wK)
  by_cases h1 : 0 ≤ id ∧ id ≤ 9999
  · have r1 := inR_t h1
    have E : Hid (codeCheck B K id n = if cutCheck B K ≠ 0 then cutCheck B K else if (n : Int) ≠ K then 4 else 0) := by
      unfold codeCheck Hid
      split
      · rfl
      · rw [if_neg (by omega)]
    clear h1
    go_enter Try.func62, Try.ntmps62
    go_wp2_with (first | (go_at_call 55; refine (in_any _ _ _ _).mono ?_; rintro e w' ⟨rfl, rfl⟩) | (go_at_call 40; refine (CC.out _).mono ?_; rintro e w1 ⟨rfl, hf1⟩; have hbx : w1.heap[w.heap.size]? = some (.cells #[.int .i64 B, .int .i64 K] 50 (0, 0)) := blk_go (heap_old (heap_new rfl)) hf1; have hby : w1.heap[w.heap.size + 1]? = some (.cells #[.int .i64 id, .slice A n c] 61 (0, 0)) := blk_go (heap_new (by simp)) hf1; (obtain ⟨hb0, hb1⟩ := box2_ hbx); (obtain ⟨hs0, hs1⟩ := box2_ hby); have Hf1 := Lib.hid hf1; clear hf1))
    all_goals (try simp only [beq_iff_eq, bne_iff_ne, beq_eq_false_iff_ne, bne_eq_false_iff_eq, ne_eq, Decidable.not_not, Int.natCast_inj, Bool.or_eq_true, Bool.and_eq_true, Bool.or_eq_false_iff, Bool.and_eq_false_iff, Bool.not_eq_true', Bool.not_eq_false', decide_eq_true_eq, decide_eq_false_iff_not, Bool.not_eq_true, Bool.not_eq_false] at *)
    all_goals go_ret
    all_goals exact ⟨retI (by rw [E.out]; (repeat' split) <;> first | rfl | omega), by (repeat' (first | exact Below.refl _ _ | refine below_drewN ?_ _ | refine Below.drew ?_ | refine frA ?_ _ | refine Fr.trans ?_ Hf1.out))⟩
  · have r1 := inR_f h1
    have E : Hid (codeCheck B K id n = if cutCheck B K ≠ 0 then cutCheck B K else 3) := by
      unfold codeCheck Hid
      split
      · rfl
      · rw [if_pos (by omega)]
    clear h1
    go_enter Try.func62, Try.ntmps62
    go_wp2_with (first | (go_at_call 55; refine (in_any _ _ _ _).mono ?_; rintro e w' ⟨rfl, rfl⟩) | (go_at_call 40; refine (CC.out _).mono ?_; rintro e w1 ⟨rfl, hf1⟩; have hbx : w1.heap[w.heap.size]? = some (.cells #[.int .i64 B, .int .i64 K] 50 (0, 0)) := blk_go (heap_old (heap_new rfl)) hf1; have hby : w1.heap[w.heap.size + 1]? = some (.cells #[.int .i64 id, .slice A n c] 61 (0, 0)) := blk_go (heap_new (by simp)) hf1; (obtain ⟨hb0, hb1⟩ := box2_ hbx); (obtain ⟨hs0, hs1⟩ := box2_ hby); have Hf1 := Lib.hid hf1; clear hf1))
    all_goals (try simp only [beq_iff_eq, bne_iff_ne, beq_eq_false_iff_ne, bne_eq_false_iff_eq, ne_eq, Decidable.not_not, Int.natCast_inj, Bool.or_eq_true, Bool.and_eq_true, Bool.or_eq_false_iff, Bool.and_eq_false_iff, Bool.not_eq_true', Bool.not_eq_false', decide_eq_true_eq, decide_eq_false_iff_not, Bool.not_eq_true, Bool.not_eq_false] at *)
    all_goals go_ret
    all_goals exact ⟨retI (by rw [E.out]; (repeat' split) <;> first | rfl | omega), by (repeat' (first | exact Below.refl _ _ | refine below_drewN ?_ _ | refine Below.drew ?_ | refine frA ?_ _ | refine Fr.trans ?_ Hf1.out))⟩
end Go.Proofs.Ytahkpbenebmmdaa
