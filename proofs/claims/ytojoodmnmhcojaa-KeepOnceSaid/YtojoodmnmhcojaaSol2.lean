/- solve.New, solve.Add at any arguments. No condition. -/
import Derived.Test.YtojoodmnmhcojaaSolAdd
set_option linter.unusedSimpArgs false
set_option linter.unusedVariables false
namespace Go.Proofs.Ytojoodmnmhcojaa
open Go.RowKit
attribute [local irreducible] wpList

def sysNew (B K : Int) : Sy × Int := if sysCheck B K [] ≠ 0 then (Sy.none, sysCheck B K []) else (⟨B, K, []⟩, 0)

set_option maxRecDepth 100000 in
set_option maxHeartbeats 1000000 in
theorem solNew_any (w : World) (B K : Int) (wB : wfI B) (wK : wfI K) :
    Calls Try.prog 53 #[.int .i64 B, .int .i64 K] w fun e w' => e = .returned (.tuple #[.agg #[.int .i64 (sysNew B K).1.blocks, .int .i64 (sysNew B K).1.block, .slice none 0 0], .int .i64 (sysNew B K).2]) ∧ Fr w w' := by
  obtain ⟨ck, hck⟩ : ∃ ck, ck = sysCheck B K [] := ⟨_, rfl⟩
  have hm : 0 ≤ maxLen := Nat.zero_le _
  have CK := Lib.hid hck
  by_cases h0 : ck = 0
  · have E : Hid (sysNew B K = (⟨B, K, []⟩, 0)) := by unfold sysNew Hid; rw [← hck, if_neg (by simp [h0])]
    rw [E.out]
    have e1 : (ck != 0) = false := by simp [h0]
    clear hck h0
    go_enter Try.func53, Try.ntmps53
    go_wp2_with fail
    (with_reducible refine (sysCheck_any _ B K wB wK none 0 0 [] Sl.nil hm).mono ?_)
    rw [← CK.out]
    rintro e w1 ⟨rfl, hf1⟩
    have hz1 : w1.heap[w.heap.size]? = some (.cells #[.int .i64 0, .int .i64 0, .slice none 0 0] 97 (0, 0)) := blk_go (by (repeat' (with_reducible (first | (refine heap_new ?_; (first | (simp; done) | rfl); done) | refine heap_dn ?_ | refine heap_d ?_ | refine heap_old ?_)))) hf1
    have hb1 : w1.heap[w.heap.size + 1]? = some (.cells #[.int .i64 B, .int .i64 K, .slice none 0 0] 97 (0, 0)) := blk_go (by (repeat' (with_reducible (first | (refine heap_new ?_; (first | (simp; done) | rfl); done) | refine heap_dn ?_ | refine heap_d ?_ | refine heap_old ?_)))) hf1
    (obtain ⟨u0, u1, u2⟩ := box3_ hz1)
    (obtain ⟨v0, v1, v2⟩ := box3_ hb1)
    have y0 := blk_free (i := 0) hz1
    have y1 := blk_free (i := 1) hz1
    have y2 := blk_free (i := 2) hz1
    have hzl := (Array.getElem?_eq_some_iff.1 hz1).1
    have HF : Hid (Fr w w1) := Fr.trans (by (repeat' (first | exact Below.refl _ _ | refine below_drewN ?_ _ | refine Below.drew ?_ | refine frA ?_ _))) hf1
    clear hf1 hz1 hb1
    go_wp2_with fail
    refine bodyPost_ret (v := .tuple #[.agg #[.int .i64 B, .int .i64 K, .slice none 0 0], .int .i64 0]) ?_ rfl ⟨rfl, bel3_ HF.out (Nat.le_refl _)⟩
    simp [results, Try.results53, go_sem, u0, u1, u2, hzl]
  · have E : Hid (sysNew B K = (Sy.none, ck)) := by unfold sysNew Hid; rw [← hck, if_pos h0]
    rw [E.out]
    have e1 : (ck != 0) = true := by simp [h0]
    clear hck h0
    go_enter Try.func53, Try.ntmps53
    go_wp2_with fail
    (with_reducible refine (sysCheck_any _ B K wB wK none 0 0 [] Sl.nil hm).mono ?_)
    rw [← CK.out]
    rintro e w1 ⟨rfl, hf1⟩
    have hz1 : w1.heap[w.heap.size]? = some (.cells #[.int .i64 0, .int .i64 0, .slice none 0 0] 97 (0, 0)) := blk_go (by (repeat' (with_reducible (first | (refine heap_new ?_; (first | (simp; done) | rfl); done) | refine heap_dn ?_ | refine heap_d ?_ | refine heap_old ?_)))) hf1
    (obtain ⟨u0, u1, u2⟩ := box3_ hz1)
    have y0 := blk_free (i := 0) hz1
    have y1 := blk_free (i := 1) hz1
    have y2 := blk_free (i := 2) hz1
    have hzl := (Array.getElem?_eq_some_iff.1 hz1).1
    have HF : Hid (Fr w w1) := Fr.trans (by (repeat' (first | exact Below.refl _ _ | refine below_drewN ?_ _ | refine Below.drew ?_ | refine frA ?_ _))) hf1
    clear hf1 hz1
    go_wp2_with fail
    refine bodyPost_ret (v := .tuple #[.agg #[.int .i64 0, .int .i64 0, .slice none 0 0], .int .i64 ck]) ?_ rfl ⟨rfl, bel3_ HF.out (Nat.le_refl _)⟩
    simp [results, Try.results53, go_sem, u0, u1, u2, hzl]

set_option maxRecDepth 100000 in
set_option maxHeartbeats 2000000 in
theorem solAdd_any (w : World) (B K : Int) (wB : wfI B) (wK : wfI K) (A : Option Addr) (n c : Nat) (rows : List Rw) (h : Sl 2 eRw w (LT w.heap.size) A n rows) (hm : n ≤ maxLen) (r : Rw) (A1 A2 : Option Addr) (n1 c1 n2 c2 : Nat)
    (ha : Sl 1 eBool w (LT w.heap.size) A1 n1 r.has) (hd : Sl 1 eByte w (LT w.heap.size) A2 n2 r.data) :
    Calls Try.prog 55 #[.agg #[.int .i64 B, .int .i64 K, .slice A n c], .agg #[.slice A1 n1 c1, .slice A2 n2 c2]] w (AddPost w (sysAdd ⟨B, K, rows⟩ r)) := by
  by_cases h0 : sysCheck B K rows = 0
  · obtain ⟨⟨b1, b2⟩, ⟨k1, k2⟩, _, hR⟩ := sysCheck_ok h0
    by_cases h1 : (n1 : Int) = B ∧ (n2 : Int) = K
    · obtain ⟨rfl, rfl⟩ := h1
      exact solAdd_ok w n1 n2 A n c rows h (by omega) (by omega) (rowsOk_sys hR) r A1 A2 c1 c2 ha hd
    · have E : Hid (sysAdd ⟨B, K, rows⟩ r = (Sy.none, false, 4)) := by
        unfold sysAdd Hid
        rw [if_neg (by simp [h0]), if_pos (by rw [ha.1, hd.1]; simp only [ne_eq]; omega)]
      have h0' := Lib.hid h0
      have hm2 : n ≤ maxLen := hm
      have HS := Lib.hid h
      clear ha hd hR h0 h
      by_cases g1 : (n1 : Int) = B
      · have g2 : ¬ (n2 : Int) = K := fun e => h1 ⟨g1, e⟩
        have t1 : ((n1 : Int) != B) = false := by simp [g1]
        have t2 : ((n2 : Int) != K) = true := by simp [g2]
        clear h1 g1 g2
        go_enter Try.func55, Try.ntmps55
        go_wp2_with fail
        (with_reducible refine (sysCheck_any _ B K wB wK A n c rows (HS.out.go sRw (by (repeat' (first | exact Below.refl _ _ | refine below_drewN ?_ _ | refine Below.drew ?_ | refine frA ?_ _)))) hm2).mono ?_)
        rw [h0'.out]
        rintro e w1 ⟨rfl, hf1⟩
        have hb1 : w1.heap[w.heap.size]? = some (.cells #[.int .i64 B, .int .i64 K, .slice A n c] 97 (0, 0)) := blk_go (by (repeat' (with_reducible (first | (refine heap_new ?_; (first | (simp; done) | rfl); done) | refine heap_dn ?_ | refine heap_d ?_ | refine heap_old ?_)))) hf1
        have hr1 : w1.heap[w.heap.size + 1]? = some (.cells #[.slice A1 n1 c1, .slice A2 n2 c2] 106 (0, 0)) := blk_go (heap_old (heap_new (by simp))) hf1
        obtain ⟨p4, hp4⟩ : ∃ p4, p4 = w.heap.size + 1 + 1 := ⟨_, rfl⟩
        have hz1 : w1.heap[p4]? = some (.cells #[.int .i64 0, .int .i64 0, .slice none 0 0] 97 (0, 0)) := by rw [hp4]; exact blk_go (heap_new (by simp)) hf1
        have hpw : w.heap.size ≤ p4 := by omega
        rw [← hp4]
        (obtain ⟨u0, u1, u2⟩ := box3_ hb1)
        (obtain ⟨v0, v1⟩ := box2_ hr1)
        (obtain ⟨x0, x1, x2⟩ := box3_ hz1)
        have y0 := blk_free (i := 0) hz1
        have y1 := blk_free (i := 1) hz1
        have y2 := blk_free (i := 2) hz1
        have hzl := (Array.getElem?_eq_some_iff.1 hz1).1
        have HF : Hid (Fr w w1) := Fr.trans (by (repeat' (first | exact Below.refl _ _ | refine below_drewN ?_ _ | refine Below.drew ?_ | refine frA ?_ _))) hf1
        clear hf1 hz1 hb1 hr1 hp4
        go_wp2_with fail
        refine bodyPost_ret (v := .tuple #[.agg #[.int .i64 0, .int .i64 0, .slice none 0 0], .bool false, .int .i64 4]) ?_ rfl ?_
        · simp [results, Try.results55, go_sem, x0, x1, x2, hzl]
        · rw [E.out]
          exact ⟨none, 0, 0, rfl, ⟨by omega, by omega, by unfold maxLen; omega⟩, Sl.nil, bel3_ HF.out hpw⟩
      · have t1 : ((n1 : Int) != B) = true := by simp [g1]
        clear h1 g1
        go_enter Try.func55, Try.ntmps55
        go_wp2_with fail
        (with_reducible refine (sysCheck_any _ B K wB wK A n c rows (HS.out.go sRw (by (repeat' (first | exact Below.refl _ _ | refine below_drewN ?_ _ | refine Below.drew ?_ | refine frA ?_ _)))) hm2).mono ?_)
        rw [h0'.out]
        rintro e w1 ⟨rfl, hf1⟩
        have hb1 : w1.heap[w.heap.size]? = some (.cells #[.int .i64 B, .int .i64 K, .slice A n c] 97 (0, 0)) := blk_go (by (repeat' (with_reducible (first | (refine heap_new ?_; (first | (simp; done) | rfl); done) | refine heap_dn ?_ | refine heap_d ?_ | refine heap_old ?_)))) hf1
        have hr1 : w1.heap[w.heap.size + 1]? = some (.cells #[.slice A1 n1 c1, .slice A2 n2 c2] 106 (0, 0)) := blk_go (heap_old (heap_new (by simp))) hf1
        obtain ⟨p4, hp4⟩ : ∃ p4, p4 = w.heap.size + 1 + 1 := ⟨_, rfl⟩
        have hz1 : w1.heap[p4]? = some (.cells #[.int .i64 0, .int .i64 0, .slice none 0 0] 97 (0, 0)) := by rw [hp4]; exact blk_go (heap_new (by simp)) hf1
        have hpw : w.heap.size ≤ p4 := by omega
        rw [← hp4]
        (obtain ⟨u0, u1, u2⟩ := box3_ hb1)
        (obtain ⟨v0, v1⟩ := box2_ hr1)
        (obtain ⟨x0, x1, x2⟩ := box3_ hz1)
        have y0 := blk_free (i := 0) hz1
        have y1 := blk_free (i := 1) hz1
        have y2 := blk_free (i := 2) hz1
        have hzl := (Array.getElem?_eq_some_iff.1 hz1).1
        have HF : Hid (Fr w w1) := Fr.trans (by (repeat' (first | exact Below.refl _ _ | refine below_drewN ?_ _ | refine Below.drew ?_ | refine frA ?_ _))) hf1
        clear hf1 hz1 hb1 hr1 hp4
        go_wp2_with fail
        refine bodyPost_ret (v := .tuple #[.agg #[.int .i64 0, .int .i64 0, .slice none 0 0], .bool false, .int .i64 4]) ?_ rfl ?_
        · simp [results, Try.results55, go_sem, x0, x1, x2, hzl]
        · rw [E.out]
          exact ⟨none, 0, 0, rfl, ⟨by omega, by omega, by unfold maxLen; omega⟩, Sl.nil, bel3_ HF.out hpw⟩
  · obtain ⟨ck, hck⟩ : ∃ ck, ck = sysCheck B K rows := ⟨_, rfl⟩
    have E : Hid (sysAdd ⟨B, K, rows⟩ r = (Sy.none, false, ck)) := by unfold sysAdd Hid; rw [if_pos h0, ← hck]
    rw [← hck] at h0
    have e1 : (ck != 0) = true := by simp [h0]
    have HS := Lib.hid h
    (have Hck := Lib.hid hck; clear hck)
    clear ha hd h0 h
    go_enter Try.func55, Try.ntmps55
    go_wp2_with fail
    (with_reducible refine (sysCheck_any _ B K wB wK A n c rows (HS.out.go sRw (by (repeat' (first | exact Below.refl _ _ | refine below_drewN ?_ _ | refine Below.drew ?_ | refine frA ?_ _)))) hm).mono ?_)
    rw [← Hck.out]
    rintro e w1 ⟨rfl, hf1⟩
    obtain ⟨p4, hp4⟩ : ∃ p4, p4 = w.heap.size + 1 + 1 := ⟨_, rfl⟩
    have hz1 : w1.heap[p4]? = some (.cells #[.int .i64 0, .int .i64 0, .slice none 0 0] 97 (0, 0)) := by rw [hp4]; exact blk_go (heap_new (by simp)) hf1
    have hpw : w.heap.size ≤ p4 := by omega
    rw [← hp4]
    (obtain ⟨x0, x1, x2⟩ := box3_ hz1)
    have y0 := blk_free (i := 0) hz1
    have y1 := blk_free (i := 1) hz1
    have y2 := blk_free (i := 2) hz1
    have hzl := (Array.getElem?_eq_some_iff.1 hz1).1
    have HF : Hid (Fr w w1) := Fr.trans (by (repeat' (first | exact Below.refl _ _ | refine below_drewN ?_ _ | refine Below.drew ?_ | refine frA ?_ _))) hf1
    clear hf1 hz1 hp4
    go_wp2_with fail
    refine bodyPost_ret (v := .tuple #[.agg #[.int .i64 0, .int .i64 0, .slice none 0 0], .bool false, .int .i64 ck]) ?_ rfl ?_
    · simp [results, Try.results55, go_sem, x0, x1, x2, hzl]
    · rw [E.out]
      exact ⟨none, 0, 0, rfl, ⟨by omega, by omega, by unfold maxLen; omega⟩, Sl.nil, bel3_ HF.out hpw⟩
end Go.Proofs.Ytojoodmnmhcojaa
