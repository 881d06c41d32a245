/- solve.Known. No condition. -/
import Derived.Test.YtojoodmnmhcojaaSol2
import Derived.Deep.DeepCutAuto
import Derived.Deep.Cut
set_option linter.unusedSimpArgs false
set_option linter.unusedVariables false
namespace Go.Proofs.Ytojoodmnmhcojaa
open Go.RowKit
attribute [local irreducible] wpList

/-- Bytes that are nil where there are none. -/
def eNB : ERd (List UInt8) := fun w S f xs => ∃ A n c, f 0 = some (.slice A n c) ∧ (n * 1 ≤ lim ∧ n ≤ c ∧ c ≤ maxLen) ∧ Sl 1 eByte w S A n xs ∧ (n = 0 → A = none)
theorem sNB : Stable 1 eNB := ⟨fun hk ⟨A, n, c, h0, h1, h2, h3⟩ => ⟨A, n, c, h0, h1, h2.keep sByte hk, h3⟩, fun hB ⟨A, n, c, h0, h1, h2, h3⟩ => ⟨A, n, c, h0, h1, h2.more sByte hB, h3⟩, fun hf ⟨A, n, c, h0, h1, h2⟩ => ⟨A, n, c, hf _ _ (by omega) h0, h1, h2⟩⟩
theorem fNB : Full 1 eNB := fun h j hj => by
  obtain rfl : j = 0 := by omega
  obtain ⟨A, n, c, h0, _⟩ := h
  exact ⟨_, h0, rfl⟩
theorem eNB.block {w : World} {S : Nat → Prop} {f : Nat → Option Value} {x : List UInt8} (h : eNB w S f x) : eBlock w S f x := by
  obtain ⟨A, n, c, h0, h1, h2, _⟩ := h
  exact ⟨A, n, c, h0, h1, h2⟩
theorem Sl.nb {w : World} {S : Nat → Prop} {A : Option Addr} {n : Nat} {xs : List (List UInt8)} (h : Sl 1 eNB w S A n xs) : Sl 1 eBlock w S A n xs := ⟨h.1, fun hn => by
  obtain ⟨ad, e, hS, hr⟩ := h.2 hn
  exact ⟨ad, e, hS, fun i x hx => (hr i x hx).block⟩⟩

/-- Has a row one block alone, its first? -/
def Rw.unit (r : Rw) : Bool := !decide (true ∈ r.has.drop (r.fst.toNat + 1))
def knownStep (out : List (List UInt8)) (r : Rw) : List (List UInt8) := if r.unit then out.set r.fst.toNat r.data else out
def knownF (B : Nat) (rows : List Rw) : List (List UInt8) := rows.foldl knownStep (List.replicate B [])
def sysKnown (s : Sy) : List (List UInt8) × Int := if sysCheck s.blocks s.block s.rows ≠ 0 then ([], sysCheck s.blocks s.block s.rows) else (knownF s.blocks.toNat s.rows, 0)
theorem length_knownStep (out : List (List UInt8)) (r : Rw) : (knownStep out r).length = out.length := by unfold knownStep; split <;> simp
theorem length_foldKnown : ∀ (rows : List Rw) (out : List (List UInt8)), (rows.foldl knownStep out).length = out.length
  | [], _ => rfl
  | r :: rows, out => by rw [List.foldl_cons, length_foldKnown rows, length_knownStep]

theorem infoNB : (Try.prog.info? 36).map (fun i => (i.zero, i.size, i.bytes)) = some (some (Value.slice none 0 0), 1, 24) := by kernel_rfl
theorem own_madeNB {w : World} {base g n : Nat} (hb : base ≤ g) (h : w.heap[g]? = some (.cells (ca id (List.replicate n (Value.slice none 0 0))) 36 (0, 0))) (hm : n ≤ maxLen) :
    Own 1 eNB w base 36 (.slice (some ⟨g, 0, none⟩) n n) (List.replicate n ([] : List UInt8)) := by
  refine ⟨List.replicate n (Value.slice none 0 0), ⟨by simp, .inr ⟨g, n, _, by simp, hb, h, by simp, hm, by simp [ca], by simp [ca]⟩⟩, fun i x hx => ?_⟩
  have hi : i < n := by have := (List.getElem?_eq_some_iff.1 hx).1; simpa using this
  obtain rfl : [] = x := by simpa [List.getElem?_replicate, hi] using hx
  exact ⟨none, 0, 0, by simp [List.getElem?_replicate, hi], ⟨by omega, by omega, by unfold maxLen; omega⟩, Sl.nil, fun _ => rfl⟩

theorem add_succ_addr (a : Addr) (k : Nat) : a.add (k + 1) = ⟨a.block, a.off + (k + 1), none⟩ := by unfold Addr.add; simp
theorem own_lt {α : Type} {size : Nat} {r : ERd α} {w : World} {base g n c : Nat} {e : TypeId} {xs : List α} (h : Own size r w base e (.slice (some ⟨g, 0, none⟩) n c) xs) : g < w.heap.size := by
  obtain ⟨cs, ho, _⟩ := h
  exact (ho.lt g rfl).2
set_option maxRecDepth 100000 in
set_option maxHeartbeats 2000000 in
theorem solKnown_ok (w : World) (B K : Nat) (A : Option Addr) (n c : Nat) (rows : List Rw) (h : Sl 2 eRw w (LT w.heap.size) A n rows) (hB : 1 ≤ B ∧ B ≤ 24) (hK : 1 ≤ K ∧ K ≤ 16) (hs : Sys B K rows) :
    Calls Try.prog 56 #[.agg #[.int .i64 B, .int .i64 K, .slice A n c]] w fun e w' => ∃ g, e = .returned (.tuple #[.slice (some ⟨g, 0, none⟩) B B, .int .i64 0]) ∧ Own 1 eNB w' w.heap.size 36 (.slice (some ⟨g, 0, none⟩) B B) (knownF B rows) ∧ Fr w w' := by
  have hlen := h.1
  have hn24 : n ≤ 24 := by have := hs.card; omega
  have hck : Hid (sysCheck B K rows = 0) := sysCheck_of hB hK hs
  obtain ⟨B1, B2⟩ := hB
  obtain ⟨K1, K2⟩ := hK
  have hmk := run_make_ca (P := Try.prog) (id : Value → Value) (.slice none 0 0) 107 36 24 Try.underlying107 infoNB rfl .i64 .i64 B (by omega) (by omega)
  have hBm : B ≤ maxLen := by unfold maxLen; omega
  (have H := Lib.hid h; clear h; have Hs := Lib.hid hs; clear hs; have Hlen := Lib.hid hlen; clear hlen)
  go_enter Try.func56, Try.ntmps56
  go_wp2_with fail
  (with_reducible refine (sysCheck_any _ B K (wfI.mk (by omega)) (wfI.mk (by omega)) A n c rows (H.out.go sRw (by (repeat' (first | exact Below.refl _ _ | refine below_drewN ?_ _ | refine Below.drew ?_ | refine frA ?_ _)))) (by unfold maxLen; omega)).mono ?_)
  rw [hck.out]
  rintro e w1 ⟨rfl, hf1⟩
  have hb1 : w1.heap[w.heap.size]? = some (.cells #[.int .i64 B, .int .i64 K, .slice A n c] 97 (0, 0)) := blk_go (by (repeat' (with_reducible (first | (refine heap_new ?_; (first | (simp; done) | rfl); done) | refine heap_dn ?_ | refine heap_d ?_ | refine heap_old ?_)))) hf1
  have HF1 : Hid (Fr w w1) := Fr.trans (by (repeat' (first | exact Below.refl _ _ | refine below_drewN ?_ _ | refine Below.drew ?_ | refine frA ?_ _))) hf1
  (obtain ⟨u0, u1, u2⟩ := box3_ hb1)
  have hbl := (Array.getElem?_eq_some_iff.1 hb1).1
  clear hf1 hb1
  go_wp2_with fail
  obtain ⟨g, hg⟩ : ∃ g, g = w1.heap.size := ⟨_, rfl⟩
  obtain ⟨W2, hW2⟩ : ∃ W2, W2 = w1.alloc (.cells (ca id (List.replicate B (.slice none 0 0))) 36) := ⟨_, rfl⟩
  have HF2 : Hid (Fr w W2) := by rw [hW2]; exact HF1.out.trans (frAlloc _ _)
  have HO2 : Hid (Own 1 eNB W2 (w.heap.size + 1) 36 (.slice (some ⟨g, 0, none⟩) B B) (List.replicate B [])) := by
    rw [hW2]; exact own_madeNB (by omega) (heap_new hg) hBm
  have hz2 : W2.heap.size = g + 1 := by rw [hW2, hg]; simp
  have hgl : g < W2.heap.size := by omega
  have hwg : w.heap.size < g := by omega
  have HZ2 := Lib.hid hz2
  rw [← hW2, ← hg]
  clear hW2 hg hz2 hmk u0 u1 u2
  go_loopw [20] (fun s20 wr => ∃ j : Nat, j ≤ n ∧ s20 = .int .i64 j ∧ Hid (Own 1 eNB wr (w.heap.size + 1) 36 (.slice (some ⟨g, 0, none⟩) B B) ((rows.take j).foldl knownStep (List.replicate B []))) ∧ Hid (Chg (fun b => b = g) W2 wr)) (fun i _ => n - (intOf i).toNat)
  case atStart => exact ⟨0, Nat.zero_le _, rfl, HO2, Chg.refl _ _⟩
  case round =>
    obtain ⟨j, hj, rfl, HO, HC⟩ := hrel
    by_cases hlt : j < n
    · have HWr : Hid (Fr w wr) := HC.out.fr HF2.out fun b hb => by rw [hb]; omega
      obtain ⟨ad, rfl, hE⟩ := (H.out.go sRw HWr.out).els (by omega)
      obtain ⟨o, ho, hr⟩ := hE.row hlt
      have hpb := hE.2.1
      obtain ⟨A1, n1, c1, A2, n2, c2, ⟨m0, m1⟩, ⟨⟨e1, e2, e3⟩, ha⟩, ⟨⟨e4, e5, e6⟩, hd⟩⟩ := eRw_at hr
      have hom := List.mem_of_getElem? ho
      have hfo := Hs.out.fit o hom
      obtain rfl : n1 = B := ha.1.symm.trans hfo.1
      obtain rfl : n2 = K := hd.1.symm.trans hfo.2
      obtain ⟨kf, hkf, _, hkB⟩ := Hs.out.leads hom
      have HKF : Hid (idxF true o.has = (kf : Int)) := hkf
      have hgw := own_lt HO.out
      have hun : o.unit = !decide (true ∈ o.has.drop (kf + 1)) := by unfold Rw.unit; rw [hkf, Int.toNat_natCast]
      obtain ⟨un, hue⟩ : ∃ un, un = decide (true ∈ o.has.drop (kf + 1)) := ⟨_, rfl⟩
      rw [← hue] at hun
      have hst : Hid ((rows.take (j + 1)).foldl knownStep (List.replicate n1 []) = if un then (rows.take j).foldl knownStep (List.replicate n1 []) else ((rows.take j).foldl knownStep (List.replicate n1 [])).set kf o.data) := by
        rw [Hid, take_snoc' ho, List.foldl_append, List.foldl_cons, List.foldl_nil]
        unfold knownStep
        rw [hun, hkf, Int.toNat_natCast]
        cases un <;> rfl
      clear hkf hun hr hE hom
      obtain ⟨X, hXe⟩ : ∃ X, X = (rows.take j).foldl knownStep (List.replicate n1 ([] : List UInt8)) := ⟨_, rfl⟩
      have hXl : X.length = n1 := by rw [hXe, length_foldKnown]; simp
      rw [← hXe] at hst HO
      obtain ⟨q, hq⟩ : ∃ q, q = wr.heap.size := ⟨_, rfl⟩
      obtain ⟨W5, hW5⟩ : ∃ W5, W5 = wr.alloc (.cells #[.slice A1 n1 c1, .slice A2 n2 c2] 106) := ⟨_, rfl⟩
      have hF5 : Fr wr W5 := by rw [hW5]; exact frAlloc _ _
      have HQ5 : Hid (W5.heap[q]? = some (.cells #[.slice A1 n1 c1, .slice A2 n2 c2] 106 (0, 0))) := by rw [hW5]; exact heap_new hq
      have hA := Lib.hid (ha.go sBool hF5)
      have hD := Lib.hid (hd.go sByte hF5)
      have HUE := Lib.hid hue
      have HF5 := Lib.hid hF5
      have HW5 := Lib.hid hW5
      have hkn : kf + 1 ≤ n1 := by omega
      have hc1 : n1 ≤ c1 := e2
      have hK1 : 0 < n2 := K1
      have i1 : (0 : Int) ≤ (kf : Int) + 1 := by omega
      have i2 : (kf : Int) + 1 ≤ (n1 : Int) := by omega
      have hqw : g < q := by omega
      (have E4 := Lib.hid e4; clear e4; have Hfo := Lib.hid hfo; clear hfo; have HXe := Lib.hid hXe; clear hXe; have HXl := Lib.hid hXl; clear hXl)
      clear ho ha hd e1 e3 e5 e6 hue hF5 hW5
      go_wp2_with fail
      rw [← HW5.out, ← hq]
      clear m0 m1 hq HW5
      (with_reducible refine (first_at _ _ _ _ _ _ _ o.has kf hA.out hBm HKF.out).mono ?_)
      rintro e w6 ⟨rfl, hf6⟩
      have HQ6 := Lib.hid (blk_go HQ5.out hf6)
      have hb6 := HQ6.out
      (obtain ⟨v0, v1⟩ := box2_ hb6)
      have HF6 : Hid (Fr wr w6) := HF5.out.trans hf6
      have hA6 := Lib.hid (hA.out.go sBool hf6)
      have HA6 := Lib.hid ((hA.out.go sBool hf6).cut (k := kf + 1) (cap := c1) hkn hc1)
      have HD6 := Lib.hid (hD.out.go sByte hf6)
      clear hf6 hb6 HQ5 HF5 hA hD
      obtain ⟨Ac, hAc⟩ : ∃ Ac, Ac = (if c1 = kf + 1 then A1 else A1.map (·.add ((kf + 1) * 1))) := ⟨_, rfl⟩
      rw [← hAc] at HA6
      obtain ⟨nd, hnd⟩ : ∃ nd, nd = n1 - (kf + 1) := ⟨_, rfl⟩
      have hndm : nd ≤ maxLen := by unfold maxLen at hBm ⊢; omega
      have i3 : ((kf : Int) + 1).toNat = kf + 1 := by omega
      go_upto_region 9 with fail
      go_cut [32] (fun s32 wx => s32 = .bool (!un) ∧ w6 = wx)
      case first =>
        by_cases hcap : c1 = kf + 1
        · rw [if_pos hcap] at hAc
          have HA7 := HA6
          rw [hAc] at HA7
          have HCT := Lib.hid (fun cc => containsBool_any w6 _ A1 (n1 - (kf + 1)) cc _ HA7.out (by unfold maxLen at hBm ⊢; omega))
          rw [← HUE.out] at HCT
          have qw : IntKind.i64.wrap ((kf : Int) + 1) = (kf : Int) + 1 := by rw [IntKind.wrap_i64]; omega
          clear hAc hnd
          go_wp2_with fail
          (with_reducible refine (HCT.out _).mono ?_)
          rintro e w7 ⟨rfl, rfl⟩
          go_wp2_with fail
          go_meet
          exact ⟨rfl, rfl⟩
        · rw [if_neg hcap] at hAc
          obtain ⟨adb, rfl, hEb⟩ := hA6.out.els (by omega)
          simp only [Option.map_some, Nat.mul_one] at hAc
          have HA7 := HA6
          rw [hAc, add_succ_addr] at HA7
          have HCT := Lib.hid (fun cc => containsBool_any w6 _ (some ⟨adb.block, adb.off + (kf + 1), none⟩) (n1 - (kf + 1)) cc _ HA7.out (by unfold maxLen at hBm ⊢; omega))
          rw [← HUE.out] at HCT
          have qw : IntKind.i64.wrap ((kf : Int) + 1) = (kf : Int) + 1 := by rw [IntKind.wrap_i64]; omega
          clear hAc hnd hEb
          go_wp2_with fail
          (with_reducible refine (HCT.out _).mono ?_)
          rintro e w7 ⟨rfl, rfl⟩
          go_wp2_with fail
          go_meet
          exact ⟨rfl, rfl⟩
      case rest =>
        obtain ⟨rfl, rfl⟩ := hcut
        clear HA6 hA6 hAc hnd hndm i3
        have hXk : Hid ((rows.take (j + 1)).foldl knownStep (List.replicate n1 []) = if un then X else X.set kf o.data) := hst
        cases un with
        | true =>
          go_wp2_with fail
          have HO6 := Lib.hid (HO.out.fr sNB HF6.out)
          have HC6 : Hid (Chg (fun b => b = g) W2 w6) := HC.out.trans HF6.out.chg
          go_roundw
          case rel => exact ⟨j + 1, by omega, by go_num, by rw [hst.out, if_pos rfl]; exact HO6, HC6⟩
          case measure => simp [intOf]; omega
        | false =>
          have HO6 := Lib.hid (HO.out.fr sNB HF6.out)
          have HC6 : Hid (Chg (fun b => b = g) W2 w6) := HC.out.trans HF6.out.chg
          have hgl6 := own_lt HO6.out
          go_wp2_with fail
          (with_reducible refine (cloneBlock_blk _ _ _ _ o.data HD6.out E4.out hK1).mono ?_)
          rintro e w7 ⟨d, cd, rfl, hdd, hk, hcd, hf7⟩
          have HO7 := HO6.out.fr sNB hf7
          have hgl7 := own_lt HO7
          obtain ⟨g', cap', cs, rest, e1, hbg, hgh, _, _, hl, _, h1, _⟩ := own_row fNB (by decide) HO7 (by rw [HXl.out]; exact B1)
          injection e1 with e1 e2 e3
          injection e1 with e1
          injection e1 with e1
          subst e1 e3
          have hcl : cs.length = n1 := by rw [hl, HXl.out, Nat.mul_one]
          obtain ⟨cv, hcv⟩ : ∃ cv, cs[kf]? = some cv := ⟨_, List.getElem?_eq_getElem (by omega)⟩
          have m2 : w7.cell? ⟨g, kf, none⟩ = some cv := cells_at hgh hcv
          have m3 : w7.frozen? ⟨g, kf, none⟩ = false := blk_free hgh
          have hone := h1 cv (List.mem_of_getElem? hcv)
          have HO8 : Hid (Own 1 eNB (w7.setCell ⟨g, kf, none⟩ (.slice (some ⟨d, 0, none⟩) n2 cd)) (w.heap.size + 1) 36 (.slice (some ⟨g, 0, none⟩) n1 n1) (X.set kf o.data)) := by
            have := own_set (i := kf) (j := 0) (u := .slice (some ⟨d, 0, none⟩) n2 cd) (x := o.data) sNB fNB (by decide) HO7 hkB (by decide) rfl fun f hf => by
              refine ⟨some ⟨d, 0, none⟩, n2, cd, by simp, ⟨by unfold lim; omega, hcd⟩, ?_, fun e => by omega⟩
              rw [← Hfo.out.2]
              exact hk.bytes ⟨hk.lt, by omega⟩
            unfold Hid; simpa using this
          have HC8 : Hid (Chg (fun b => b = g) W2 (w7.setCell ⟨g, kf, none⟩ (.slice (some ⟨d, 0, none⟩) n2 cd))) := Chg.set (S := fun b => b = g) (p := ⟨g, kf, none⟩) (HC6.out.trans hf7.chg) rfl _
          have q2 : w7.cell? ⟨q, 1, none⟩ = some (.slice A2 n2 c2) := cell_of_heap (blk_go HQ6.out hf7)
          clear HO7 hgh hl h1 hcv hk hf7 HO6 HC6 hbg hcl e2
          go_wp2_with fail
          go_roundw
          case rel => exact ⟨j + 1, by omega, by go_num, by rw [hst.out, if_neg (by simp)]; exact HO8, HC8⟩
          case measure => simp [intOf]; omega
    · obtain rfl : j = n := by omega
      rw [List.take_of_length_le (by rw [Hlen.out]; exact Nat.le_refl _)] at HO
      have HWr : Hid (Fr w wr) := HC.out.fr HF2.out fun b hb => by rw [hb]; omega
      go_wp2_with fail
      go_ret2
      exact ⟨g, rfl, HO.out.lower (by omega), HWr.out⟩

set_option maxRecDepth 100000 in
set_option maxHeartbeats 1000000 in
theorem solKnown_bad (w : World) (B K : Int) (wB : wfI B) (wK : wfI K) (A : Option Addr) (n c : Nat) (rows : List Rw) (h : Sl 2 eRw w (LT w.heap.size) A n rows) (hm : n ≤ maxLen) (h0 : sysCheck B K rows ≠ 0) :
    Calls Try.prog 56 #[.agg #[.int .i64 B, .int .i64 K, .slice A n c]] w fun e w' => e = .returned (.tuple #[.slice none 0 0, .int .i64 (sysCheck B K rows)]) ∧ Fr w w' := by
  obtain ⟨ck, hck⟩ : ∃ ck, ck = sysCheck B K rows := ⟨_, rfl⟩
  rw [← hck] at h0 ⊢
  have e1 : (ck != 0) = true := by simp [h0]
  (have Hck := Lib.hid hck; clear hck; have H := Lib.hid h; clear h)
  clear h0
  go_enter Try.func56, Try.ntmps56
  go_wp2_with fail
  (with_reducible refine (sysCheck_any _ B K wB wK A n c rows (H.out.go sRw (by (repeat' (first | exact Below.refl _ _ | refine below_drewN ?_ _ | refine Below.drew ?_ | refine frA ?_ _)))) hm).mono ?_)
  rw [← Hck.out]
  rintro e w1 ⟨rfl, hf1⟩
  have HF : Hid (Fr w w1) := Fr.trans (by (repeat' (first | exact Below.refl _ _ | refine below_drewN ?_ _ | refine Below.drew ?_ | refine frA ?_ _))) hf1
  clear hf1
  go_wp2_with fail
  go_ret2
  exact ⟨rfl, HF.out⟩
end Go.Proofs.Ytojoodmnmhcojaa
