/- 'SolveKeeps', walked. No condition. -/
import Derived.Test.YtnfjghldcopaaaaSolved
import Derived.Test.YtnfjghldcopaaaaKeepsP
import Derived.Deep.DeepCutAuto
import Derived.Deep.Cut
set_option linter.unusedSimpArgs false
set_option linter.unusedVariables false
namespace Go.Proofs.Ytnfjghldcopaaaa
open Go.RowKit
attribute [local irreducible] wpList

theorem sysSame_eq (w : World) (B K : Int) (A A' : Option Addr) (n c n' c' : Nat) (xs : List Rw) (h : Sl 2 eRw w (LT w.heap.size) A n xs) (h' : Sl 2 eRw w (LT w.heap.size) A' n' xs) (hm : n ≤ maxLen) :
    Calls Try.prog 20 #[.agg #[.int .i64 B, .int .i64 K, .slice A n c], .agg #[.int .i64 B, .int .i64 K, .slice A' n' c']] w fun e w' => e = .returned (.bool true) ∧ Fr w w' :=
  (sysSame_any w B K B K A A' n c n' c' xs xs h h' hm).mono fun e w' ⟨h1, h2⟩ => ⟨by rw [h1]; simp, h2⟩

theorem equalBlock_eq2 (w : World) (S T : Nat → Prop) (A A' : Option Addr) (n c n' c' : Nat) (xs : List UInt8) (h : Sl 1 eByte w S A n xs) (h' : Sl 1 eByte w T A' n' xs) (hm : n ≤ maxLen) :
    Calls Try.prog 26 #[.slice A n c, .slice A' n' c'] w fun e w' => e = .returned (.bool true) ∧ ∃ m, w' = w.drewN m :=
  (equalBlock_any w S T A A' n c n' c' xs xs h h' hm).mono fun e w' ⟨he, m, hw⟩ => ⟨by rw [he]; simp, m, hw⟩
set_option maxRecDepth 100000 in
set_option maxHeartbeats 4000000 in
theorem solveKeeps_walk (w : World) (B K : Int) (wB : wfI B) (wK : wfI K) (A : Option Addr) (n c : Nat) (rows : List Rw) (h : Sl 2 eRw w (LT w.heap.size) A n rows) (hm : n ≤ maxLen) (r : Rw) (A1 A2 : Option Addr) (n1 c1 n2 c2 : Nat)
    (ha : Sl 1 eBool w (LT w.heap.size) A1 n1 r.has) (hd : Sl 1 eByte w (LT w.heap.size) A2 n2 r.data) :
    Calls Try.prog 4 #[.agg #[.int .i64 B, .int .i64 K, .slice A n c], .agg #[.slice A1 n1 c1, .slice A2 n2 c2]] w fun e w' => e = .returned (.bool true) ∧ Fr w w' := by
  obtain ⟨b, k, rows', m, er, hE⟩ : ∃ b k rows' m er, sysAdd ⟨B, K, rows⟩ r = (⟨b, k, rows'⟩, m, er) := ⟨_, _, _, _, _, rfl⟩
  have E := Lib.hid hE
  by_cases h0 : er = 0
  · subst h0
    obtain ⟨rfl, rfl, hP⟩ := keepsP hE
    have P := Lib.hid hP
    have hn24 : n ≤ 24 := by have h1 := h.1; have h2 := sysCheck_ok hP.chk; omega
    have hlen := Lib.hid h.1
    (have H := Lib.hid h; clear h; have Ha := Lib.hid ha; clear ha; have Hd := Lib.hid hd; clear hd)
    clear hE hP
    go_enter Try.func4, Try.ntmps4
    go_wp2_with fail
    (with_reducible refine (solAdd_eq _ _ _ wB wK _ _ _ rows (H.out.go sRw (by (repeat' (first | exact Below.refl _ _ | refine below_drewN ?_ _ | refine Below.drew ?_ | refine frA ?_ _)))) hm r _ _ _ _ _ _ (Ha.out.go sBool (by (repeat' (first | exact Below.refl _ _ | refine below_drewN ?_ _ | refine Below.drew ?_ | refine frA ?_ _)))) (Hd.out.go sByte (by (repeat' (first | exact Below.refl _ _ | refine below_drewN ?_ _ | refine Below.drew ?_ | refine frA ?_ _)))) _ _ _ _ _ E.out).mono ?_)
    rintro e v1 ⟨A3, n3, c3, rfl, ⟨hn3, hc3, hm3⟩, hs3, hf⟩
    have hb1 : v1.heap[w.heap.size]? = some (.cells #[.int .i64 b, .int .i64 k, .slice A n c] 24 (0, 0)) := blk_go (by (repeat' (with_reducible (first | (refine heap_new ?_; (first | (simp; done) | rfl); done) | refine heap_dn ?_ | refine heap_d ?_ | refine heap_old ?_)))) hf
    have hr1 : v1.heap[w.heap.size + 1]? = some (.cells #[.slice A1 n1 c1, .slice A2 n2 c2] 29 (0, 0)) := blk_go (by (repeat' (with_reducible (first | (refine heap_new ?_; (first | (simp; done) | rfl); done) | refine heap_dn ?_ | refine heap_d ?_ | refine heap_old ?_)))) hf
    have HF1 : Hid (Fr w v1) := Fr.trans (by (repeat' (first | exact Below.refl _ _ | refine below_drewN ?_ _ | refine Below.drew ?_ | refine frA ?_ _))) hf
    have HS3 : Hid (Sl 2 eRw v1 (LT v1.heap.size) A3 n3 rows') := hs3.more sRw fun b hb => hb.2
    have hl3 : n3 ≤ maxLen := by unfold maxLen; omega
    (obtain ⟨x0, x1, x2⟩ := box3_ hb1)
    (obtain ⟨y0, y1⟩ := box2_ hr1)
    have HB1 := Lib.hid hb1
    have HR1 := Lib.hid hr1
    clear hf hs3 hb1 hr1
    go_wp2_with fail
    (with_reducible refine (solved_any _).mono ?_)
    rintro e v2 ⟨rfl, hf⟩
    obtain ⟨p5, hp5⟩ : ∃ p5, p5 = v1.heap.size := ⟨_, rfl⟩
    have hb2 := blk_go (heap_old (o := .cells #[.int .i64 b, .int .i64 k, .slice A3 n3 c3] 24) HB1.out) hf
    have hr2 := blk_go (heap_old (o := .cells #[.int .i64 b, .int .i64 k, .slice A3 n3 c3] 24) HR1.out) hf
    have ha2 : v2.heap[p5]? = some (.cells #[.int .i64 b, .int .i64 k, .slice A3 n3 c3] 24 (0, 0)) := by rw [hp5]; exact blk_go (heap_new rfl) hf
    have HF2 : Hid (Fr v1 v2) := (frAlloc _ _).trans hf
    rw [← hp5]
    (obtain ⟨x0, x1, x2⟩ := box3_ hb2)
    (obtain ⟨y0, y1⟩ := box2_ hr2)
    (obtain ⟨z0, z1, z2⟩ := box3_ ha2)
    have HB2 := Lib.hid hb2
    have HR2 := Lib.hid hr2
    have HA2 := Lib.hid ha2
    clear hf hb2 hr2 ha2 hp5 HB1 HR1
    go_wp2_with fail
    (with_reducible refine (solAdd_eq _ _ _ wB wK _ _ _ rows' (HS3.out.go sRw (Fr.trans HF2.out (by (repeat' (first | exact Below.refl _ _ | refine below_drewN ?_ _ | refine Below.drew ?_ | refine frA ?_ _))))) hl3 r _ _ _ _ _ _ (Ha.out.go sBool (Fr.trans HF1.out (Fr.trans HF2.out (by (repeat' (first | exact Below.refl _ _ | refine below_drewN ?_ _ | refine Below.drew ?_ | refine frA ?_ _)))))) (Hd.out.go sByte (Fr.trans HF1.out (Fr.trans HF2.out (by (repeat' (first | exact Below.refl _ _ | refine below_drewN ?_ _ | refine Below.drew ?_ | refine frA ?_ _)))))) _ _ _ _ _ P.out.again).mono ?_)
    rintro e v3 ⟨A4, n4, c4, rfl, ⟨hn4, hc4, hm4⟩, hs4, hf⟩
    have HS4 : Hid (Sl 2 eRw v3 (LT v3.heap.size) A4 n4 rows') := hs4.more sRw fun b hb => hb.2
    have hb3 := blk_go HB2.out hf
    have ha3 := blk_go HA2.out hf
    have HF3 : Hid (Fr v1 v3) := HF2.out.trans hf
    (obtain ⟨x0, x1, x2⟩ := box3_ hb3)
    (obtain ⟨z0, z1, z2⟩ := box3_ ha3)
    have hbl := (Array.getElem?_eq_some_iff.1 hb3).1
    have hal := (Array.getElem?_eq_some_iff.1 ha3).1
    have HB3 := Lib.hid hb3
    have HA3 := Lib.hid ha3
    clear hf hs4 hb3 ha3 HB2 HR2 HA2 HF2
    go_upto_region 5 with fail
    obtain ⟨W5, hW5⟩ : ∃ W5, W5 = v3.alloc (.cells #[.int .i64 b, .int .i64 k, .slice A4 n4 c4] 24) := ⟨_, rfl⟩
    have HB5 : Hid (W5.heap[w.heap.size]? = some (.cells #[.int .i64 b, .int .i64 k, .slice A n c] 24 (0, 0))) := by rw [hW5]; exact heap_old HB3.out
    have HA5 : Hid (W5.heap[p5]? = some (.cells #[.int .i64 b, .int .i64 k, .slice A3 n3 c3] 24 (0, 0))) := by rw [hW5]; exact heap_old HA3.out
    have HZ5 : Hid (W5.heap[v3.heap.size]? = some (.cells #[.int .i64 b, .int .i64 k, .slice A4 n4 c4] 24 (0, 0))) := by rw [hW5]; exact heap_new rfl
    have HF35 : Hid (Fr v3 W5) := by rw [hW5]; exact frAlloc _ _
    have HF5 : Hid (Fr v1 W5) := HF3.out.trans HF35.out
    rw [← hW5]
    clear hW5 HB3 HA3 HF3 x0 x1 x2 z0 z1 z2 hbl hal
    go_cut [73] (fun s73 wx => s73 = .bool false ∧ Hid (Fr W5 wx))
    case first =>
      have hb5 := HB5.out
      have ha5 := HA5.out
      have hz5 := HZ5.out
      (obtain ⟨x0, x1, x2⟩ := box3_ hb5)
      (obtain ⟨z0, z1, z2⟩ := box3_ ha5)
      (obtain ⟨u0, u1, u2⟩ := box3_ hz5)
      clear hb5 ha5 hz5
      cases m with
      | true =>
        have e1 : ((n3 : Int) == (n : Int) + 1) = true := by
          have := P.out.len
          rw [HS3.out.1, hlen.out, eq_comm, decide_eq_true_eq] at this
          simp; omega
        go_wp2_with fail
        (with_reducible refine (sysSame_eq _ _ _ _ _ _ _ _ _ rows' (HS3.out.go sRw HF5.out) (HS4.out.go sRw HF35.out) hl3).mono ?_)
        rintro e v4 ⟨rfl, hf⟩
        have HF4 := Lib.hid hf
        have hb4 := blk_go HB5.out hf
        have ha4 := blk_go HA5.out hf
        (obtain ⟨x0, x1, x2⟩ := box3_ hb4)
        (obtain ⟨z0, z1, z2⟩ := box3_ ha4)
        clear hf hb4 ha4
        go_wp2_with fail
        (with_reducible refine (sysCheck_any _ _ _ wB wK _ _ _ rows' (HS3.out.go sRw (HF5.out.trans HF4.out)) hl3).mono ?_)
        rw [P.out.chk']
        rintro e v5 ⟨rfl, hf⟩
        have HF55 := Lib.hid (HF4.out.trans hf)
        have hb4 := blk_go HB5.out HF55.out
        have ha4 := blk_go HA5.out HF55.out
        (obtain ⟨x0, x1, x2⟩ := box3_ hb4)
        (obtain ⟨z0, z1, z2⟩ := box3_ ha4)
        clear hf hb4 ha4
        go_wp2_with fail
        go_meet
        exact ⟨rfl, HF55⟩
      | false =>
        have e1 : ((n3 : Int) == (n : Int) + 1) = false := by
          have := P.out.len
          rw [HS3.out.1, hlen.out, eq_comm, decide_eq_false_iff_not] at this
          simp; omega
        go_wp2_with fail
        (with_reducible refine (sysSame_eq _ _ _ _ _ _ _ _ _ rows' (HS3.out.go sRw HF5.out) (HS4.out.go sRw HF35.out) hl3).mono ?_)
        rintro e v4 ⟨rfl, hf⟩
        have HF4 := Lib.hid hf
        have hb4 := blk_go HB5.out hf
        have ha4 := blk_go HA5.out hf
        (obtain ⟨x0, x1, x2⟩ := box3_ hb4)
        (obtain ⟨z0, z1, z2⟩ := box3_ ha4)
        clear hf hb4 ha4
        go_wp2_with fail
        (with_reducible refine (sysCheck_any _ _ _ wB wK _ _ _ rows' (HS3.out.go sRw (HF5.out.trans HF4.out)) hl3).mono ?_)
        rw [P.out.chk']
        rintro e v5 ⟨rfl, hf⟩
        have HF55 := Lib.hid (HF4.out.trans hf)
        have hb4 := blk_go HB5.out HF55.out
        have ha4 := blk_go HA5.out HF55.out
        (obtain ⟨x0, x1, x2⟩ := box3_ hb4)
        (obtain ⟨z0, z1, z2⟩ := box3_ ha4)
        have HS5 : Hid (Sl 2 eRw v5 (LT v5.heap.size) A3 n3 rows) := by
          have := HS3.out.go sRw (HF5.out.trans HF55.out)
          rw [P.out.same rfl] at this
          exact this
        clear hf hb4 ha4
        go_wp2_with fail
        (with_reducible refine (sysSame_eq _ _ _ _ _ _ _ _ _ rows HS5.out (H.out.go sRw (HF1.out.trans (HF5.out.trans HF55.out))) hl3).mono ?_)
        rintro e v6 ⟨rfl, hf⟩
        have HF6 : Hid (Fr W5 v6) := HF55.out.trans hf
        clear hf
        go_wp2_with fail
        go_meet
        exact ⟨rfl, HF6⟩
    case rest =>
      obtain ⟨rfl, HF6⟩ := hcut
      obtain ⟨v6, rfl⟩ : ∃ v6, v6 = wc := ⟨_, rfl⟩
      have hb6 := blk_go HB5.out HF6.out
      (obtain ⟨x0, x1, x2⟩ := box3_ hb6)
      have HF7 : Hid (Fr v1 v6) := HF5.out.trans HF6.out
      have HA6 := Lib.hid (blk_go HA5.out HF6.out)
      clear hb6
      go_wp2_with fail
      (with_reducible refine (solKnown_eq _ _ _ _ _ _ rows (H.out.go sRw (HF1.out.trans HF7.out)) P.out.chk).mono ?_)
      rintro e v7 ⟨g1, m1, rfl, hm1, hm24, hk1, hf⟩
      have ha7 := blk_go HA6.out hf
      (obtain ⟨z0, z1, z2⟩ := box3_ ha7)
      have HF8 : Hid (Fr v1 v7) := HF7.out.trans hf
      have HK1 := Lib.hid hk1
      clear hf ha7 hk1 x0 x1 x2
      go_wp2_with fail
      (with_reducible refine (solKnown_eq _ _ _ _ _ _ rows' (HS3.out.go sRw HF8.out) P.out.chk').mono ?_)
      rintro e v8 ⟨g2, m2, rfl, hm2, hm242, hk2, hf⟩
      obtain rfl : m2 = m1 := by omega
      have HK3 := Lib.hid (HK1.out.go sNB hf)
      have HK2 := Lib.hid hk2
      have HF9 : Hid (Fr v1 v8) := HF8.out.trans hf
      have HKN : Hid (∀ (k : Nat) (x : List UInt8), (knownF m2 rows)[k]? = some x → x ≠ [] → (knownF m2 rows')[k]? = some x) := by
        have := P.out.known
        rw [← hm1, Int.toNat_natCast] at this
        exact this
      clear hf hk2 HK1 z0 z1 z2 hm1 hm2
      go_wp2_with fail
      go_loopw [92] (fun s92 wr => ∃ i q : Nat, i ≤ m2 ∧ s92 = .int .i64 i ∧ wr = v8.drewN q) (fun i _ => m2 - (intOf i).toNat)
      case atStart => exact ⟨0, 0, Nat.zero_le _, rfl, rfl⟩
      case round =>
        obtain ⟨i, q, hi, rfl, rfl⟩ := hrel
        by_cases hlt : i < m2
        · obtain ⟨ad, e1, hE⟩ := HK3.out.els (by omega)
          injection e1 with e1
          subst e1
          obtain ⟨x, hx, Ax, nx, cx, hcx, ⟨hx1, _, _⟩, hx2, hx3⟩ := hE.at_ hlt
          obtain ⟨ad, e1, hE'⟩ := HK2.out.els (by omega)
          injection e1 with e1
          subst e1
          obtain ⟨y, hy, Ay, ny, cy, hcy, ⟨hy1, _, _⟩, hy2, _⟩ := hE'.at_ hlt
          have hcx : v8.cell? ⟨g1, i, none⟩ = some (.slice Ax nx cx) := by simpa [zero_add_addr] using hcx
          have hcy : v8.cell? ⟨g2, i, none⟩ = some (.slice Ay ny cy) := by simpa [zero_add_addr] using hcy
          have hnil := fun (W : World) => run_neq_slice_nil_any (P := Try.prog) W 27 _ Ax nx cx 0 0 Try.underlying27
          rcases Nat.eq_zero_or_pos nx with h0 | h0
          · obtain rfl := hx3 h0
            have hnil2 := hnil
            simp only [Option.isNone_none, Bool.not_true] at hnil2
            clear hnil hx hy hx2 hy2 hE hE'
            go_wp2_with fail
            go_roundw
            case rel => exact ⟨i + 1, q, by omega, by go_num, rfl⟩
            case measure => simp [intOf]; omega
          · obtain ⟨adx, rfl, _⟩ := hx2.2 h0
            have hxy := HKN.out i x hx (fun e => by have := hx2.1; rw [e] at this; simp at this; omega)
            obtain rfl : x = y := by have := hxy.symm.trans hy; injection this
            have hnil2 := hnil
            simp only [Option.isNone_some, Bool.not_false] at hnil2
            have hnm : nx ≤ maxLen := by unfold lim at hx1; unfold maxLen; omega
            have HX2 : Hid (Sl 1 eByte (v8.drewN q) (LT v8.heap.size) (some adx) nx x) := hx2.keep sByte fun _ _ => rfl
            have HY2 : Hid (Sl 1 eByte (v8.drewN q) (LT v8.heap.size) Ay ny x) := hy2.keep sByte fun _ _ => rfl
            clear hnil hx hy hx2 hy2 hE hE' hxy
            go_wp2_with fail
            (with_reducible refine (equalBlock_eq2 (v8.drewN q) _ _ _ _ _ _ _ _ x HX2.out HY2.out hnm).mono ?_)
            rintro e v9 ⟨rfl, q2, rfl⟩
            go_wp2_with fail
            go_roundw
            case rel => exact ⟨i + 1, q + q2, by omega, by go_num, rfl⟩
            case measure => simp [intOf]; omega
        · go_wp2_with fail
          go_ret
          exact ⟨rfl, HF1.out.trans (HF9.out.trans (frDrewN _ _))⟩
  · have e1 : (er != 0) = true := by simp [h0]
    (have H := Lib.hid h; clear h; have Ha := Lib.hid ha; clear ha; have Hd := Lib.hid hd; clear hd)
    clear hE h0
    go_enter Try.func4, Try.ntmps4
    go_wp2_with fail
    (with_reducible refine (solAdd_eq _ _ _ wB wK _ _ _ rows (H.out.go sRw (by (repeat' (first | exact Below.refl _ _ | refine below_drewN ?_ _ | refine Below.drew ?_ | refine frA ?_ _)))) hm r _ _ _ _ _ _ (Ha.out.go sBool (by (repeat' (first | exact Below.refl _ _ | refine below_drewN ?_ _ | refine Below.drew ?_ | refine frA ?_ _)))) (Hd.out.go sByte (by (repeat' (first | exact Below.refl _ _ | refine below_drewN ?_ _ | refine Below.drew ?_ | refine frA ?_ _)))) _ _ _ _ _ E.out).mono ?_)
    rintro e v1 ⟨A3, n3, c3, rfl, _, _, hf⟩
    have HF1 : Hid (Fr w v1) := Fr.trans (by (repeat' (first | exact Below.refl _ _ | refine below_drewN ?_ _ | refine Below.drew ?_ | refine frA ?_ _))) hf
    clear hf
    go_wp2_with fail
    (with_reducible refine (solved_any _).mono ?_)
    rintro e v2 ⟨rfl, hf⟩
    have HF2 : Hid (Fr v1 v2) := (frAlloc _ _).trans hf
    clear hf
    go_wp2_with fail
    (with_reducible refine (solved_any _).mono ?_)
    rintro e v3 ⟨rfl, hf⟩
    have HF3 := Lib.hid hf
    clear hf
    go_wp2_with fail
    go_ret
    exact ⟨rfl, HF1.out.trans (HF2.out.trans HF3.out)⟩
theorem solveKeeps_any (w : World) (B K : Int) (A : Option Addr) (n c : Nat) (rows : List Rw) (wB : wfI B) (wK : wfI K) (h : Sl 2 eRw w (LT w.heap.size) A n rows) (_l : n * 48 ≤ lim) (hnc : n ≤ c) (hm : c ≤ maxLen) (r : Rw) (A1 : Option Addr) (n1 c1 : Nat) (A2 : Option Addr) (n2 c2 : Nat)
    (ha : Bol w (LT w.heap.size) A1 n1 c1 r.has) (hd : Byt w (LT w.heap.size) A2 n2 c2 r.data) :
    Calls Try.prog 4 #[.agg #[.int .i64 B, .int .i64 K, .slice A n c], .agg #[.slice A1 n1 c1, .slice A2 n2 c2]] w fun e w' => e = .returned (.bool true) ∧ Fr w w' :=
  solveKeeps_walk w B K wB wK A n c rows h (Nat.le_trans hnc hm) r A1 A2 n1 c1 n2 c2 ha.2 hd.2
end Go.Proofs.Ytnfjghldcopaaaa
