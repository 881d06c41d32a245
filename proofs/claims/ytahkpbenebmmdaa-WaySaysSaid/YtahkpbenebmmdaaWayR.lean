/- The reference's CheckMail. No condition. -/
import Derived.Test.YtahkpbenebmmdaaWayC
set_option linter.unusedSimpArgs false
set_option linter.unusedVariables false
namespace Go.Proofs.Ytahkpbenebmmdaa
open Go.RowKit
attribute [local irreducible] wpList

set_option maxRecDepth 100000 in
set_option maxHeartbeats 4000000 in
theorem refMail_any (w : World) (A : Option Addr) (n c : Nat) (ls : List Ml) (h : Sl 13 eMl w (LT w.heap.size) A n ls) (hm : n ≤ lim) :
    Calls Try.prog 48 #[.slice A n c] w fun e w' => e = .returned (.int .i64 (mlCheck ls)) ∧ Fr w w' := by
  unfold lim at hm
  have hlen := h.1
  by_cases h40 : 40 < n
  · have E : Hid (mlCheck ls = 2) := by unfold mlCheck; exact if_pos (by omega)
    clear h hlen
    go_enter Try.func48, Try.ntmps48
    go_wp2_with fail
    go_ret
    exact ⟨retI E.out.symm, Below.refl _ _⟩
  · have E : Hid (mlCheck ls = mlCheckL ls) := by unfold mlCheck; exact if_neg (by omega)
    clear hm
    (have H := Lib.hid h; clear h; have Hlen := Lib.hid hlen; clear hlen)
    go_enter Try.func48, Try.ntmps48
    go_wp2_with fail
    go_loopw [13] (fun i wr => ∃ k : Nat, k ≤ n ∧ i = .int .i64 k ∧ Hid (mlCheckL ls = mlCheckL (ls.drop k)) ∧ Hid (Fr w wr)) (fun i _ => n - (intOf i).toNat)
    case atStart => exact ⟨0, Nat.zero_le _, rfl, rfl, Below.refl _ _⟩
    case round =>
      obtain ⟨k, hk, rfl, HS, HF⟩ := hrel
      by_cases hlt : k < n
      · obtain ⟨ad, rfl, hE⟩ := (H.out.go sMl HF.out).els (by omega)
        obtain ⟨x, hx, hr⟩ := hE.row hlt
        obtain ⟨A', n', c', hc, hw, hby⟩ := eMl_at hr
        obtain ⟨m0, m1, m2, m3, m4, m5, m6, m7, m8, m9, m10, m11, m12⟩ := hc
        have HS' : Hid (mlCheckL ls = if mlCheck1 x ≠ 0 then mlCheck1 x else mlCheckL (ls.drop (k + 1))) := by
          rw [Hid, HS.out, drop_cons hx, mlCheckL]
        have hwf := hw.2.2
        have hbl := hby.2.1
        clear hr hE hx hby
        (have Hbl := Lib.hid hbl; clear hbl)
        have hwh := hwf.2.1
        have wB := hwh.2.2.2.2.1
        have wK := hwh.2.2.2.2.2
        go_wp2_with (first | (go_at_call 55; refine (in_any _ _ _ _).mono ?_; rintro e w' ⟨rfl, rfl⟩) | (go_at_call 61; refine (refHead_any _ _ hwh).mono ?_; rintro e w1 ⟨rfl, hf1⟩; have hbx : w1.heap[wr.heap.size + 1]? = some (.cells #[.int .i64 x.f.kind, .int .i64 x.f.h.frm, .int .i64 x.f.h.seq, .int .i64 x.f.h.to, .int .i64 x.f.h.till, .int .i64 x.f.h.bytes, .int .i64 x.f.h.block, .int .i64 x.f.s.id, .slice A' n' c', .int .i64 x.f.n, .int .i64 x.f.try_] 71 (0, 0)) := blk_go (heap_new (by simp)) hf1; (obtain ⟨hb0, hb1, hb2, hb3, hb4, hb5, hb6, hb7, hb8, hb9, hb10⟩ := box11_ hbx); have Hf1 := Lib.hid hf1; clear hf1) | (go_at_call 62; refine (refSymbol_any _ _ _ _ _ _ _ wB wK).mono ?_; rintro e w2 ⟨rfl, hf2⟩; have Hf2 := Lib.hid hf2; clear hf2))
        all_goals (try simp only [inR, Bool.and_eq_true, decide_eq_true_eq, Bool.and_eq_false_iff, decide_eq_false_iff_not] at *)
        all_goals (try simp only [beq_iff_eq, bne_iff_ne, beq_eq_false_iff_ne, bne_eq_false_iff_eq, ne_eq, Decidable.not_not, Int.natCast_inj, Bool.or_eq_true, Bool.and_eq_true, Bool.or_eq_false_iff, Bool.and_eq_false_iff, Bool.not_eq_true', Bool.not_eq_false', decide_eq_true_eq, decide_eq_false_iff_not, Bool.not_eq_true, Bool.not_eq_false] at *)
        all_goals first
          | (go_ret; exact ⟨retI (by rw [E.out, HS'.out]; unfold mlCheck1 fmCheck; rw [Hbl.out]; (repeat' split) <;> first | rfl | omega), by (repeat' (first | exact Below.refl _ _ | refine below_drewN ?_ _ | refine Below.drew ?_ | refine frA ?_ _ | refine Fr.trans ?_ Hf2.out | refine Fr.trans ?_ Hf1.out | refine Fr.trans ?_ HF.out))⟩)
          | (go_roundw; (case rel => exact ⟨k + 1, by omega, by go_num, by rw [Hid, HS'.out]; unfold mlCheck1 fmCheck; rw [Hbl.out]; (repeat' split) <;> first | rfl | omega, by (repeat' (first | exact Below.refl _ _ | refine below_drewN ?_ _ | refine Below.drew ?_ | refine frA ?_ _ | refine Fr.trans ?_ Hf2.out | refine Fr.trans ?_ Hf1.out | refine Fr.trans ?_ HF.out))⟩); (case measure => simp [intOf]; omega))
      · have hf : Hid (mlCheckL ls = 0) := by rw [Hid, HS.out, List.drop_eq_nil_of_le (by have := Hlen.out; omega)]; rfl
        go_wp2_with fail
        go_ret
        exact ⟨retI (by rw [E.out, hf.out]), HF.out⟩
end Go.Proofs.Ytahkpbenebmmdaa
