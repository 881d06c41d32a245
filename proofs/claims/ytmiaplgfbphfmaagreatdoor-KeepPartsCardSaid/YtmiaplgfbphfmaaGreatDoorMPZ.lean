/- solve.Known. No condition. -/
import Derived.Test.YtmiaplgfbphfmaaGreatDoorMPJ
import Derived.Test.YtmiaplgfbphfmaaGreatDoorMPI
import Derived.Test.YtmiaplgfbphfmaaGreatDoorMPY
import Derived.Deep.DeepCutAuto
import Derived.Deep.Cut
set_option linter.unusedSimpArgs false
set_option linter.unusedVariables false
namespace Go.Proofs.YtmiaplgfbphfmaaGreatDoor
open Go.RowKit
attribute [local irreducible] wpList

set_option maxRecDepth 100000 in
set_option maxHeartbeats 1000000 in
theorem sysCheck_any (w : World) (B K : Int) (wB : wfI B) (wK : wfI K) (A : Option Addr) (n c : Nat) (rows : List Rw) (h : Sl 2 eRw w (LT w.heap.size) A n rows) (hm : n ≤ maxLen) :
    Calls Tryz.prog 183 #[.agg #[.int .i64 B, .int .i64 K, .slice A n c]] w fun e w' => e = .returned (.int .i64 (sysCheck B K rows)) ∧ Fr w w' := by
  unfold maxLen at hm
  have hlen := h.1
  by_cases h1 : B < 1 ∨ 24 < B ∨ K < 1 ∨ 16 < K
  · have E : Hid (sysCheck B K rows = 3) := if_pos h1
    clear h hlen
    by_cases g1 : B < 1
    · go_enter Tryz.func183, Tryz.ntmps183
      go_wp2_with fail
      go_ret
      exact ⟨retI E.out.symm, frAlloc _ _⟩
    · by_cases g2 : 24 < B
      · go_enter Tryz.func183, Tryz.ntmps183
        go_wp2_with fail
        go_ret
        exact ⟨retI E.out.symm, frAlloc _ _⟩
      · by_cases g3 : K < 1
        · go_enter Tryz.func183, Tryz.ntmps183
          go_wp2_with fail
          go_ret
          exact ⟨retI E.out.symm, frAlloc _ _⟩
        · have g4 : 16 < K := by omega
          go_enter Tryz.func183, Tryz.ntmps183
          go_wp2_with fail
          go_ret
          exact ⟨retI E.out.symm, frAlloc _ _⟩
  · have HH1 := Lib.hid h1
    have hb : (1 ≤ B ∧ B ≤ 24) ∧ 1 ≤ K ∧ K ≤ 16 := by omega
    obtain ⟨⟨b1, b2⟩, b3, b4⟩ := hb
    have hg1 : ¬ B < 1 := by omega
    have hg2 : ¬ 24 < B := by omega
    have hg3 : ¬ K < 1 := by omega
    have hg4 : ¬ 16 < K := by omega
    clear h1
    by_cases h2 : B < (n : Int)
    · have E : Hid (sysCheck B K rows = 2) := by unfold sysCheck Hid; rw [if_neg HH1.out, if_pos (by rw [hlen]; exact h2)]
      clear h hlen
      go_enter Tryz.func183, Tryz.ntmps183
      go_wp2_with fail
      go_ret
      exact ⟨retI E.out.symm, frAlloc _ _⟩
    · have HH2 : Hid ((rows.length : Int) ≤ B) := by rw [Hid, hlen]; omega
      obtain ⟨W1, hW1⟩ : ∃ W1, W1 = w.alloc (.cells #[.int .i64 B, .int .i64 K, .slice A n c] 233) := ⟨_, rfl⟩
      have HB : Hid (W1.heap[w.heap.size]? = some (.cells #[.int .i64 B, .int .i64 K, .slice A n c] 233 (0, 0))) := by rw [hW1]; exact heap_new rfl
      have HF1 : Hid (Fr w W1) := by rw [hW1]; exact frAlloc _ _
      have H := Lib.hid (h.go sRw HF1.out)
      have HW1 := Lib.hid hW1
      (have Hlen := Lib.hid hlen; clear hlen)
      clear h hW1
      go_enter Tryz.func183, Tryz.ntmps183
      go_wp2_with fail
      rw [← HW1.out]
      clear HW1
      go_loopw [3, 36] (fun s3 s36 wr => ∃ i : Nat, i ≤ n ∧ s36 = .int .i64 i ∧ s3 = .int .i64 (lastOf rows i) ∧ Hid (∀ (i' : Nat) (r : Rw), i' < i → rows[i']? = some r → RowOk B K rows i' r) ∧ Hid (Fr W1 wr)) (fun _ i _ => n - (intOf i).toNat)
      case atStart => exact ⟨0, Nat.zero_le _, rfl, rfl, fun i' r hi _ => by omega, Below.refl _ _⟩
      case round =>
        obtain ⟨i, hi, rfl, rfl, HR, HF⟩ := hrel
        have hbx := blk_go HB.out HF.out
        have hbl : w.heap.size < wr.heap.size := (Array.getElem?_eq_some_iff.1 hbx).1
        (obtain ⟨hc0, hc1, hc2⟩ := box3_ hbx)
        have HBX := Lib.hid hbx
        clear hbx
        by_cases hlt : i < n
        · obtain ⟨ad, rfl, hE⟩ := (H.out.go sRw HF.out).els (by omega)
          obtain ⟨x, hx, hr⟩ := hE.row hlt
          obtain ⟨A1, n1, c1, A2, n2, c2, ⟨m0, m1⟩, ⟨⟨k1, k2, k3⟩, ha⟩, ⟨⟨k4, k5, k6⟩, hd⟩⟩ := eRw_at hr
          have hnl : n1 ≤ maxLen := by omega
          unfold lim at k1 k4
          have hal := ha.1
          have hdl := hd.1
          have HA := Lib.hid (ha.go sBool (frAlloc wr (.cells #[.slice A1 n1 c1, .slice A2 n2 c2] 242)))
          clear hE hr ha hd
          by_cases hl1 : (n1 : Int) = B
          · by_cases hl2 : (n2 : Int) = K
            · have t1 : ((n1 : Int) != B) = false := by simp [hl1]
              have t2 : ((n2 : Int) != K) = false := by simp [hl2]
              have HL1 := Lib.hid hl1
              have HL2 := Lib.hid hl2
              have HX := Lib.hid hx
              (have Hal := Lib.hid hal; clear hal; have Hdl := Lib.hid hdl; clear hdl)
              clear hl1 hl2 hx
              go_wp2_with fail
              (with_reducible refine (first_any _ A1 A2 n1 c1 n2 c2 x.has HA.out hnl).mono ?_)
              rintro e w2 ⟨rfl, hf2⟩
              have HF2 : Hid (Fr W1 w2) := (HF.out.trans (frAlloc _ _)).trans hf2
              clear hf2
              have hbd := idxF_bd true x.has
              rw [Hal.out] at hbd
              obtain ⟨kf, hkf⟩ : ∃ kf, kf = idxF true x.has := ⟨_, rfl⟩
              rw [← hkf] at hbd ⊢
              have hlg := lastOf_ge rows i
              obtain ⟨la, hla⟩ : ∃ la, la = lastOf rows i := ⟨_, rfl⟩
              rw [← hla] at hlg ⊢
              have HKF : Hid (kf = x.fst) := hkf
              (have Hla := Lib.hid hla; clear hla)
              clear hkf
              by_cases hle : kf ≤ la
              · have E : Hid (sysCheck B K rows = 4) := sysCheck_bad HH1.out (Int.not_lt.2 HH2.out) HX.out fun e => by have := e.up; rw [← HKF.out, ← Hla.out] at this; omega
                go_wp2_with fail
                go_ret
                exact ⟨retI E.out.symm, HF1.out.trans HF2.out⟩
              · obtain ⟨k, rfl⟩ : ∃ k : Nat, kf = (k : Int) := ⟨kf.toNat, by omega⟩
                have hle1 : decide ((k : Int) ≤ la) = false := by simp; omega
                have hk63 : (k : Int) < 140737488355328 := by omega
                have HLE : Hid (la < (k : Int)) := by rw [Hid]; omega
                have HBX2 := Lib.hid (blk_go HB.out HF2.out)
                have hbl2 : w.heap.size < w2.heap.size := (Array.getElem?_eq_some_iff.1 HBX2.out).1
                have hbx2 := HBX2.out
                (obtain ⟨hd0, hd1, hd2⟩ := box3_ hbx2)
                clear hbx2 hle hbd
                go_wp2_with fail
                go_loopw [64] (fun s64 wr => ∃ j : Nat, j ≤ n ∧ s64 = .int .i64 j ∧ Hid (∀ (j' : Nat) (o : Rw), j' < j → j' ≠ i → rows[j']? = some o → o.has.getD k false = false) ∧ Hid (Fr W1 wr)) (fun j _ => n - (intOf j).toNat)
                case atStart => exact ⟨0, Nat.zero_le _, rfl, fun j' o hj _ _ => by omega, HF2⟩
                case round =>
                  obtain ⟨j, hj, rfl, HJ, HF3⟩ := hrel
                  by_cases hltj : j < n
                  · have hzb := (Array.getElem?_eq_some_iff.1 (blk_go HB.out HF3.out)).1
                    obtain ⟨ad', e', hE'⟩ := (H.out.go sRw HF3.out).els (by omega)
                    injection e' with e'
                    subst e'
                    obtain ⟨o, ho, hr'⟩ := hE'.row hltj
                    obtain ⟨A3, n3, c3, A4, n4, c4, ⟨p0, p1⟩, ⟨⟨k1', k2', k3'⟩, ha'⟩, _⟩ := eRw_at hr'
                    unfold lim at k1'
                    have hal' := ha'.1
                    by_cases hji : j = i
                    · have t3 : ((j : Int) != (i : Int)) = false := by simp [hji]
                      have HJ' : Hid (∀ (j' : Nat) (o : Rw), j' < j + 1 → j' ≠ i → rows[j']? = some o → o.has.getD k false = false) := fun j' o h1 h2 h3 => HJ.out j' o (by omega) h2 h3
                      clear hE' ho hr' ha' hal' hji
                      go_wp2_with fail
                      go_roundw
                      case rel => exact ⟨j + 1, by omega, by go_num, HJ', by (repeat' (first | exact Below.refl _ _ | refine below_drewN ?_ _ | refine Below.drew ?_ | refine frA ?_ _ | refine Fr.trans ?_ HF3.out))⟩
                      case measure => simp [intOf]; omega
                    · have t3 : ((j : Int) != (i : Int)) = true := by simp; omega
                      by_cases hkl : k < n3
                      · obtain ⟨ab, rfl, hEb⟩ := ha'.els (by omega)
                        obtain ⟨b, hbk, hcb⟩ := hEb.bool hkl
                        have hbd2 : ab.block < wr.heap.size := hEb.2.1
                        have hcb2 : (wr.alloc (.cells #[.slice (some ab) n3 c3, .slice A4 n4 c4] 242)).cell? (ab.add k) = some (.bool b) := ((frAlloc wr _).cell (by rw [block_of_add]; exact hbd2)).trans hcb
                        have hbg : o.has.getD k false = b := by rw [List.getD_eq_getElem?_getD, hbk]; rfl
                        cases b with
                        | true =>
                          have E : Hid (sysCheck B K rows = 4) := sysCheck_bad HH1.out (Int.not_lt.2 HH2.out) HX.out fun e => by
                            have := e.alone j o hji ho
                            rw [← HKF.out, Int.toNat_natCast, hbg] at this
                            cases this
                          clear hE' ho hr' ha' hal' hji hEb hbk hbg
                          go_wp2_with fail
                          go_ret
                          exact ⟨retI E.out.symm, by (repeat' (first | exact Below.refl _ _ | refine below_drewN ?_ _ | refine Below.drew ?_ | refine frA ?_ _ | refine Fr.trans ?_ HF3.out | refine Fr.trans ?_ HF1.out))⟩
                        | false =>
                          have HJ' : Hid (∀ (j' : Nat) (o : Rw), j' < j + 1 → j' ≠ i → rows[j']? = some o → o.has.getD k false = false) := fun j' o' h1 h2 h3 => by
                            by_cases e : j' = j
                            · subst e
                              obtain rfl : o = o' := by have := ho.symm.trans h3; injection this
                              exact hbg
                            · exact HJ.out j' o' (by omega) h2 h3
                          clear hE' ho hr' ha' hal' hji hEb hbk hbg
                          go_wp2_with fail
                          go_roundw
                          case rel => exact ⟨j + 1, by omega, by go_num, HJ', by (repeat' (first | exact Below.refl _ _ | refine below_drewN ?_ _ | refine Below.drew ?_ | refine frA ?_ _ | refine Fr.trans ?_ HF3.out))⟩
                          case measure => simp [intOf]; omega
                      · have HJ' : Hid (∀ (j' : Nat) (o : Rw), j' < j + 1 → j' ≠ i → rows[j']? = some o → o.has.getD k false = false) := fun j' o' h1 h2 h3 => by
                          by_cases e : j' = j
                          · subst e
                            obtain rfl : o = o' := by have := ho.symm.trans h3; injection this
                            rw [List.getD_eq_getElem?_getD, List.getElem?_eq_none (by omega)]; rfl
                          · exact HJ.out j' o' (by omega) h2 h3
                        have t4 : decide ((k : Int) < (n3 : Int)) = false := by simp; omega
                        have t5 : decide (k < n3) = false := by simp; omega
                        clear hE' ho hr' ha' hal' hji
                        go_wp2_with fail
                        go_roundw
                        case rel => exact ⟨j + 1, by omega, by go_num, HJ', by (repeat' (first | exact Below.refl _ _ | refine below_drewN ?_ _ | refine Below.drew ?_ | refine frA ?_ _ | refine Fr.trans ?_ HF3.out))⟩
                        case measure => simp [intOf]; omega
                  · obtain rfl : j = n := by omega
                    have HR' : Hid (∀ (i' : Nat) (r : Rw), i' < i + 1 → rows[i']? = some r → RowOk B K rows i' r) := by
                      intro i' r hi' hr'
                      by_cases e : i' = i
                      · subst e
                        obtain rfl : x = r := by have := HX.out.symm.trans hr'; injection this
                        refine ⟨by rw [Hal.out]; exact HL1.out, by rw [Hdl.out]; exact HL2.out, by rw [← HKF.out, ← Hla.out]; exact HLE.out, fun j' o hne ho => ?_⟩
                        rw [← HKF.out, Int.toNat_natCast]
                        exact HJ.out j' o (by have := (List.getElem?_eq_some_iff.1 ho).1; have := Hlen.out; omega) hne ho
                      · exact HR.out i' r (by omega) hr'
                    have HLS : Hid ((k : Int) = lastOf rows (i + 1)) := by rw [Hid, lastOf_succ HX.out]; exact HKF.out
                    go_wp2_with fail
                    go_roundw
                    case rel => exact ⟨i + 1, by omega, by go_num, by rw [HLS.out], HR', HF3⟩
                    case measure => simp [intOf]; omega
            · have E : Hid (sysCheck B K rows = 4) := sysCheck_bad HH1.out (Int.not_lt.2 HH2.out) hx fun e => hl2 (by rw [← hdl]; exact e.data)
              have t1 : ((n1 : Int) != B) = false := by simp [hl1]
              have t2 : ((n2 : Int) != K) = true := by simp [hl2]
              clear hx hal hdl hl1 hl2
              go_wp2_with fail
              go_ret
              exact ⟨retI E.out.symm, by (repeat' (first | exact Below.refl _ _ | refine below_drewN ?_ _ | refine Below.drew ?_ | refine frA ?_ _ | refine Fr.trans ?_ HF.out | refine Fr.trans ?_ HF1.out))⟩
          · have E : Hid (sysCheck B K rows = 4) := sysCheck_bad HH1.out (Int.not_lt.2 HH2.out) hx fun e => hl1 (by rw [← hal]; exact e.has)
            have t1 : ((n1 : Int) != B) = true := by simp [hl1]
            clear hx hal hdl hl1
            go_wp2_with fail
            go_ret
            exact ⟨retI E.out.symm, by (repeat' (first | exact Below.refl _ _ | refine below_drewN ?_ _ | refine Below.drew ?_ | refine frA ?_ _ | refine Fr.trans ?_ HF.out | refine Fr.trans ?_ HF1.out))⟩
        · obtain rfl : i = n := by omega
          have E : Hid (sysCheck B K rows = 0) := sysCheck_good HH1.out (Int.not_lt.2 HH2.out) fun i' r hr => HR.out i' r (by have := (List.getElem?_eq_some_iff.1 hr).1; have := Hlen.out; omega) hr
          go_wp2_with fail
          go_ret
          exact ⟨retI E.out.symm, HF1.out.trans HF.out⟩
end Go.Proofs.YtmiaplgfbphfmaaGreatDoor
namespace Go.Proofs.YtmiaplgfbphfmaaGreatDoor
open Go.RowKit
attribute [local irreducible] wpList

theorem redRow_snoc : ∀ (l : List Rw) (o r : Rw), redRow (l ++ [o]) r = if (redRow l r).bit o.fst.toNat then rowAdd (redRow l r) o else redRow l r
  | [], o, r => rfl
  | a :: l, o, r => by rw [List.cons_append, redRow, redRow_snoc l o, redRow]
theorem redRow_take {rows : List Rw} {r o : Rw} {j : Nat} (h : rows[j]? = some o) : redRow (rows.take (j + 1)) r = if (redRow (rows.take j) r).bit o.fst.toNat then rowAdd (redRow (rows.take j) r) o else redRow (rows.take j) r := by
  rw [take_snoc' h, redRow_snoc]
/-- The first i rows without the new one's block. -/
def outTo (k : Nat) (r : Rw) (rows : List Rw) (i : Nat) : List Rw := (rows.map (outOf k r)).take i ++ rows.drop i
theorem outTo_zero (k : Nat) (r : Rw) (rows : List Rw) : outTo k r rows 0 = rows := by simp [outTo]
theorem outTo_all (k : Nat) (r : Rw) (rows : List Rw) : outTo k r rows rows.length = rows.map (outOf k r) := by
  unfold outTo
  rw [List.drop_length, List.append_nil, List.take_of_length_le (by simp)]
theorem length_outTo {k : Nat} {r : Rw} {rows : List Rw} {i : Nat} (h : i ≤ rows.length) : (outTo k r rows i).length = rows.length := by simp [outTo]; omega
theorem outTo_get {k : Nat} {r o : Rw} {rows : List Rw} {i : Nat} (h : rows[i]? = some o) : (outTo k r rows i)[i]? = some o := by
  have hi := (List.getElem?_eq_some_iff.1 h).1
  unfold outTo
  rw [List.getElem?_append_right (by simp; omega), List.length_take, List.length_map, Nat.min_eq_left (by omega), Nat.sub_self, List.getElem?_drop]
  exact h
theorem outTo_succ {k : Nat} {r o : Rw} {rows : List Rw} {i : Nat} (h : rows[i]? = some o) : (outTo k r rows i).set i (outOf k r o) = outTo k r rows (i + 1) := by
  have hi := (List.getElem?_eq_some_iff.1 h).1
  have hm : (rows.map (outOf k r))[i]? = some (outOf k r o) := by rw [List.getElem?_map, h]; rfl
  have hl : ((rows.map (outOf k r)).take i).length = i := by simp; omega
  unfold outTo
  rw [take_snoc' hm, drop_cons h, List.set_append_right _ _ (by omega), hl, Nat.sub_self, List.set_cons_zero, List.append_assoc]
  rfl
/-- Where the new one goes, as far as is known. -/
def atTo (k : Nat) (r : Rw) (rows : List Rw) (i : Nat) : Nat := if insAt k (rows.map (outOf k r)) < i then insAt k (rows.map (outOf k r)) else rows.length
theorem atTo_zero (k : Nat) (r : Rw) (rows : List Rw) : atTo k r rows 0 = rows.length := if_neg (by omega)
theorem insAt_le (k : Nat) (rows : List Rw) : insAt k rows ≤ rows.length := List.findIdx_le_length
theorem atTo_all (k : Nat) (r : Rw) (rows : List Rw) : atTo k r rows rows.length = insAt k (rows.map (outOf k r)) := by
  unfold atTo
  have := insAt_le k (rows.map (outOf k r))
  rw [List.length_map] at this
  split
  · rfl
  · omega
theorem atTo_le (k : Nat) (r : Rw) (rows : List Rw) (i : Nat) : atTo k r rows i ≤ rows.length := by
  unfold atTo
  have := insAt_le k (rows.map (outOf k r))
  rw [List.length_map] at this
  split <;> omega
theorem atTo_succ {k : Nat} {r o : Rw} {rows : List Rw} {i : Nat} (h : rows[i]? = some o) : atTo k r rows (i + 1) = if atTo k r rows i = rows.length ∧ (k : Int) < (outOf k r o).fst then i else atTo k r rows i := by
  have hi := (List.getElem?_eq_some_iff.1 h).1
  have hm : (rows.map (outOf k r))[i]? = some (outOf k r o) := by rw [List.getElem?_map, h]; rfl
  obtain ⟨L, hL⟩ : ∃ L, L = rows.map (outOf k r) := ⟨_, rfl⟩
  have hlen : L.length = rows.length := by rw [hL, List.length_map]
  unfold atTo
  rw [← hL] at hm ⊢
  have hle := insAt_le k L
  have hil : i < L.length := by omega
  have hge : L[i] = outOf k r o := (List.getElem?_eq_some_iff.1 hm).2
  by_cases h1 : insAt k L < i
  · rw [if_pos (by omega), if_pos h1, if_neg (by omega)]
  · rw [if_neg h1]
    by_cases h2 : (k : Int) < (outOf k r o).fst
    · have : insAt k L = i := by
        unfold insAt at h1 ⊢
        have h3 : L.findIdx (fun o => decide ((k : Int) < o.fst)) ≤ i := by
          rcases Nat.lt_or_ge i (L.findIdx (fun o => decide ((k : Int) < o.fst))) with h4 | h4
          · have := List.not_of_lt_findIdx h4
            rw [hge] at this
            simp at this
            omega
          · exact h4
        omega
      rw [if_pos (by omega), if_pos ⟨rfl, h2⟩, this]
    · have : insAt k L ≠ i := by
        intro e
        unfold insAt at e
        have h3 : L.findIdx (fun o => decide ((k : Int) < o.fst)) < L.length := by omega
        have := List.findIdx_getElem (w := h3)
        simp only [e, decide_eq_true_eq] at this
        rw [hge] at this
        exact h2 this
      rw [if_neg (by omega), if_neg (by omega)]

/-- A system in memory of the call's own, empty or not. -/
structure SysO (w : World) (own : Nat → Option Nat) (base top : Nat) (A : Option Addr) (c : Nat) (rows : List Rw) : Prop where
  nil : rows = [] → Own 2 eRw w base 242 (.slice A 0 c) ([] : List Rw)
  pos : 0 < rows.length → ∃ g, A = some ⟨g, 0, none⟩ ∧ SysM w own base g c rows
  top : (∀ a, A = some a → a.block < top) ∧ (∀ b i, own b = some i → b < top) ∧ top ≤ w.heap.size
  low : ∀ b i, own b = some i → base ≤ b
theorem SysO.chg {w w' : World} {own : Nat → Option Nat} {base top : Nat} {A : Option Addr} {c : Nat} {rows : List Rw} {S : Nat → Prop} (h : SysO w own base top A c rows) (k : Chg S w w') (hS : ∀ b, S b → top ≤ b ∨ b < base) : SysO w' own base top A c rows := by
  refine ⟨fun e => ?_, fun e => ?_, ⟨h.top.1, h.top.2.1, Nat.le_trans h.top.2.2 k.size⟩, h.low⟩
  · have h0 := h.nil e
    obtain ⟨cs, ho, _⟩ := h0
    refine ⟨cs, ⟨ho.1, ?_⟩, fun i x hx => by simp at hx⟩
    rcases ho.2 with h0 | ⟨g, cap, cur, h1, h2, h3, h4⟩
    · exact .inl h0
    · injection h1 with h1 h5 h6
      refine .inr ⟨g, cap, cur, by rw [h1, h6]; rfl, h2, k.blk h3 (fun e => ?_), h4⟩
      have := h.top.1 _ h1
      have h8 : g < top := this
      rcases hS g e with h7 | h7 <;> omega
  · obtain ⟨g, rfl, hM⟩ := h.pos e
    refine ⟨g, rfl, hM.chg k (fun e => ?_) fun b i hb e => ?_⟩
    · have := h.top.1 _ rfl
      have h8 : g < top := this
      have := hM.hbase
      rcases hS g e with h7 | h7 <;> omega
    · have := h.top.2.1 b i hb
      have := (hM.hown b i hb).1
      rcases hS b e with h7 | h7 <;> omega
theorem SysO.toOwn {w : World} {own : Nat → Option Nat} {base top : Nat} {A : Option Addr} {c B K : Nat} {rows : List Rw} (h : SysO w own base top A c rows) (hB : B ≤ 24) (hK : K ≤ 16) (hf : ∀ r ∈ rows, Fit B K r) : Own 2 (eHi base eRw) w base 242 (.slice A rows.length c) rows := by
  rcases Nat.eq_zero_or_pos rows.length with h0 | h0
  · obtain rfl := List.eq_nil_of_length_eq_zero h0
    exact (h.nil rfl).nilChg (Chg.refl (fun _ => False) w) (Nat.le_refl _) fun _ _ _ h => h
  · obtain ⟨g, rfl, hM⟩ := h.pos h0
    exact hM.toOwn fun r hr => by have := hf r hr; rw [this.1, this.2]; exact ⟨hB, hK⟩
/-- One row turned, in its own blocks. -/
theorem SysM.set {w w' : World} {own : Nat → Option Nat} {base g cap i : Nat} {rows : List Rw} {x : Rw} (h : SysM w own base g cap rows) (k : Chg (fun b => own b = some i) w w') (hx : RowM w' own g i x) : SysM w' own base g cap (rows.set i x) := by
  obtain ⟨cs, rest, h1, h2, h3⟩ := h.hblk
  have hg : ¬ own g = some i := fun e => (h.hown g i e).2.1 rfl
  refine ⟨⟨cs, rest, k.blk h1 hg, by rw [List.length_set]; exact h2, h3⟩, by rw [List.length_set]; exact h.hcap, h.hbase, fun b j e => ⟨(h.hown b j e).1, (h.hown b j e).2.1, Nat.lt_of_lt_of_le (h.hown b j e).2.2 k.size⟩, fun j y hy => ?_⟩
  by_cases e : j = i
  · subst e
    have hj := (List.getElem?_eq_some_iff.1 hy).1
    rw [List.length_set] at hj
    rw [List.getElem?_set_self hj] at hy
    injection hy with hy
    rw [← hy]; exact hx
  · rw [List.getElem?_set_ne (fun h => e h.symm)] at hy
    exact (h.hrow j y hy).chg k hg fun b hb hb' => e (by rw [hb] at hb'; injection hb')
theorem SysO.set {w w' : World} {own : Nat → Option Nat} {base top g c i : Nat} {rows : List Rw} {x : Rw} (h : SysO w own base top (some ⟨g, 0, none⟩) c rows) (hi : i < rows.length) (k : Chg (fun b => own b = some i) w w') (hx : RowM w' own g i x) : SysO w' own base top (some ⟨g, 0, none⟩) c (rows.set i x) := by
  obtain ⟨g', e, hM⟩ := h.pos (by omega)
  injection e with e
  injection e with e
  subst e
  refine ⟨fun e => ?_, fun _ => ⟨g, rfl, hM.set k hx⟩, ⟨h.top.1, h.top.2.1, Nat.le_trans h.top.2.2 k.size⟩, h.low⟩
  have h0 := congrArg List.length e
  rw [List.length_set, List.length_nil] at h0
  omega
/-- solve.Copy at any right system. -/
theorem sysCopy_any (w : World) (B K : Nat) (A : Option Addr) (n c : Nat) (rows : List Rw) (h : Sl 2 eRw w (LT w.heap.size) A n rows) (hn24 : n ≤ 24) (hB : 1 ≤ B ∧ B ≤ 24) (hK : 1 ≤ K ∧ K ≤ 16) (hfit : ∀ r ∈ rows, Fit B K r) :
    Calls Tryz.prog 186 #[.agg #[.int .i64 B, .int .i64 K, .slice A n c]] w fun e w' => ∃ own A' c', e = .returned (.agg #[.int .i64 B, .int .i64 K, .slice A' n c']) ∧ (n ≤ c' ∧ c' ≤ maxLen) ∧ SysO w' own w.heap.size w'.heap.size A' c' rows ∧ Fr w w' := by
  rcases Nat.eq_zero_or_pos n with h0 | h0
  · subst h0
    obtain rfl := List.eq_nil_of_length_eq_zero h.1
    refine (sysCopy_nil w B K A c).mono ?_
    rintro e w' ⟨A', c', rfl, ho, hf⟩
    obtain ⟨A2, c2, e2, hc, hs⟩ := ho.slC sRw (by decide)
    injection e2 with e2 e3 e4
    subst e2 e4
    refine ⟨fun _ => none, A', c', rfl, hc, ⟨fun _ => ho, fun h => absurd h (by simp), ⟨fun a ha => ?_, (fun b i e => by cases e), Nat.le_refl _⟩, (fun b i e => by cases e)⟩, hf⟩
    obtain ⟨cs, ho, _⟩ := ho
    subst ha
    exact (ho.lt a.block rfl).2
  · refine (sysCopy_pos w B K A n c rows h h0 hn24 hB hK hfit).mono ?_
    rintro e w' ⟨own, g, cap, rfl, hf, hM⟩
    have hg : g < w'.heap.size := by obtain ⟨cs, rest, h1, _⟩ := hM.hblk; exact (Array.getElem?_eq_some_iff.1 h1).1
    have hl := h.1
    exact ⟨own, _, cap, rfl, by rw [← hl]; exact hM.hcap, ⟨fun e => by rw [e] at hl; simp at hl; omega, fun _ => ⟨g, rfl, hM⟩, ⟨fun a ha => by injection ha with ha; rw [← ha]; exact hg, fun b i e => (hM.hown b i e).2.2, Nat.le_refl _⟩, fun b i e => (hM.hown b i e).1⟩, hf⟩

/-- A function value that tells whether a byte is not nought. -/
theorem notZero_any (w : World) (b : UInt8) : Calls Tryz.prog 191 #[.int .u8 (b.toNat : Int)] w fun e w' => e = .returned (.bool (!(b == 0))) ∧ w = w' := by
  have E : Hid ((!(b == 0)) = !(((b.toNat : Nat) : Int) == 0)) := by
    rw [Hid, Bool.eq_iff_iff]; simp [← UInt8.toNat_inj]
  go_enter Tryz.func191, Tryz.ntmps191
  go_wp2_with fail
  go_ret
  exact ⟨retB (by rw [E.out]; first | rfl | simp [bne]), rfl⟩
set_option maxHeartbeats 400000 in
theorem indexFuncByte_any (w : World) (f : FuncId) (hcf : ∀ (args : Array Value) (W : World), (callFunc f args).run Tryz.prog W = .ok (.enter f args) W) (p : UInt8 → Bool) (hfn : ∀ (W : World) (b : UInt8), Calls Tryz.prog f #[.int .u8 (b.toNat : Int)] W fun e w' => e = .returned (.bool (p b)) ∧ W = w') (S : Nat → Prop) (A : Option Addr) (n c : Nat) (xs : List UInt8) (h : Sl 1 eByte w S A n xs) (hm : n ≤ maxLen) :
    Calls Tryz.prog 215 #[.slice A n c, .func (.func f) #[] #[]] w fun e w' => e = .returned (.int .i64 (idxF true (xs.map p))) ∧ w = w' := by
  unfold maxLen at hm
  have H := Lib.hid h
  have HFN := Lib.hid hfn
  clear h hfn
  go_enter Tryz.func215, Tryz.ntmps215
  go_wp2_with fail
  go_loop [8] (fun i => ∃ k : Nat, k ≤ n ∧ i = .int .i64 k ∧ Hid (idxF true (xs.map p) = idxAux true ((xs.map p).drop k) k)) (fun i => n - (intOf i).toNat)
  case atStart => exact ⟨0, Nat.zero_le _, rfl, rfl⟩
  case round =>
    obtain ⟨k, hk, rfl, HS⟩ := hrel
    by_cases hlt : k < n
    · obtain ⟨ad, rfl, hE⟩ := H.out.els (by omega)
      obtain ⟨b, hb, hc⟩ := hE.byte hlt
      have hpb : (xs.map p)[k]? = some (p b) := by rw [List.getElem?_map, hb]; rfl
      have HS' : Hid (idxF true (xs.map p) = if true = p b then (k : Int) else idxAux true ((xs.map p).drop (k + 1)) (k + 1)) := by rw [Hid, HS.out, idxAux_drop hpb]
      obtain ⟨q, hq⟩ : ∃ q, q = p b := ⟨_, rfl⟩
      have HC := Lib.hid (HFN.out · b)
      rw [← hq] at HS' HC
      clear HS hb hE hpb hq
      go_wp2_with fail
      (with_reducible refine (HC.out _).mono ?_)
      rintro e w' ⟨rfl, rfl⟩
      cases q with
      | true =>
        have HR : Hid (idxF true (xs.map p) = (k : Int)) := by rw [Hid, HS'.out, if_pos rfl]
        clear HS'
        go_wp2_with fail
        go_ret
        exact ⟨retI HR.out.symm, rfl⟩
      | false =>
        have HR : Hid (idxF true (xs.map p) = idxAux true ((xs.map p).drop (k + 1)) (k + 1)) := by rw [Hid, HS'.out, if_neg (by simp)]
        clear HS'
        go_wp2_with fail
        go_round
        case rel => exact ⟨k + 1, by omega, by go_num, HR⟩
        case measure => simp [intOf]; omega
    · have HF : Hid (idxF true (xs.map p) = -1) := by
        have h1 := H.out.1
        rw [Hid, HS.out, List.drop_eq_nil_of_le (by simp; omega)]; rfl
      go_wp2_with fail
      go_ret
      exact ⟨retI HF.out.symm, rfl⟩
theorem containsNot_any (w : World) (S : Nat → Prop) (A : Option Addr) (n c : Nat) (xs : List UInt8) (h : Sl 1 eByte w S A n xs) (hm : n ≤ maxLen) :
    Calls Tryz.prog 190 #[.slice A n c, .func (.func 191) #[] #[]] w fun e w' => e = .returned (.bool (!(xs.all fun b => b == 0))) ∧ w = w' := by
  have E : Hid (decide (0 ≤ idxF true (xs.map fun b => !(b == 0))) = !(xs.all fun b => b == 0)) := by
    rw [Hid, idxF_ge, Bool.eq_iff_iff]
    simp
  have H := Lib.hid h
  clear h
  go_enter Tryz.func190, Tryz.ntmps190
  go_wp2_with fail
  (with_reducible refine (indexFuncByte_any _ 191 (fun _ _ => by kernel_rfl) (fun b => !(b == 0)) (fun W b => notZero_any W b) S _ _ _ xs H.out hm).mono ?_)
  rintro e w' ⟨rfl, rfl⟩
  go_wp2_with fail
  go_ret
  exact ⟨retB E.out, rfl⟩
end Go.Proofs.YtmiaplgfbphfmaaGreatDoor
namespace Go.Proofs.YtmiaplgfbphfmaaGreatDoor
open Go.RowKit
attribute [local irreducible] wpList

/-- What solve.Add leaves. -/
def AddPost (w : World) (x : Sy × Bool × Int) (e : Ending) (w' : World) : Prop :=
  ∃ A n c, e = .returned (.tuple #[.agg #[.int .i64 x.1.blocks, .int .i64 x.1.block, .slice A n c], .bool x.2.1, .int .i64 x.2.2]) ∧ (n ≤ 24 ∧ n ≤ c ∧ c ≤ maxLen) ∧ Sl 2 eRw w' (NW w.heap.size w'.heap.size) A n x.1.rows ∧ Fr w w'

theorem first_at (w : World) (A A2 : Option Addr) (n c n2 c2 : Nat) (xs : List Bool) (k : Nat) (h : Sl 1 eBool w (LT w.heap.size) A n xs) (hm : n ≤ maxLen) (hk : idxF true xs = (k : Int)) :
    Calls Tryz.prog 188 #[.agg #[.slice A n c, .slice A2 n2 c2]] w fun e w' => e = .returned (.int .i64 (k : Int)) ∧ Fr w w' :=
  (first_any w A A2 n c n2 c2 xs h hm).mono fun e w' ⟨h1, h2⟩ => ⟨by rw [h1, hk], h2⟩
/-- A row that solve.Add has in hand: its variable's block, its own two blocks. -/
structure RBx (w : World) (p h ch d cd B K : Nat) (r : Rw) : Prop where
  box : w.heap[p]? = some (.cells #[.slice (some ⟨h, 0, none⟩) B ch, .slice (some ⟨d, 0, none⟩) K cd] 242 (0, 0))
  has : Blk Value.bool w 4 h r.has
  data : Blk bV w 5 d r.data
theorem RBx.chg {w w' : World} {p h ch d cd B K : Nat} {r : Rw} {S : Nat → Prop} (x : RBx w p h ch d cd B K r) (k : Chg S w w') (hp : ¬ S p) (hh : ¬ S h) (hd : ¬ S d) : RBx w' p h ch d cd B K r := ⟨k.blk x.box hp, x.has.chg k hh, x.data.chg k hd⟩
theorem RBx.fr {w w' : World} {p h ch d cd B K : Nat} {r : Rw} (x : RBx w p h ch d cd B K r) (k : Fr w w') : RBx w' p h ch d cd B K r := ⟨blk_go x.box k, x.has.fr k, x.data.fr k⟩
theorem sysAdd_same {B K : Nat} {rows : List Rw} {r : Rw} (hc : sysCheck B K rows = 0) (hf : Fit B K r) (h0 : (redRow rows r).fst < 0) (hd : (redRow rows r).data.all (fun c => c == 0) = true) : sysAdd ⟨B, K, rows⟩ r = (⟨B, K, rows⟩, false, 0) := by
  have e : addRow rows r = (rows, false, 0) := by unfold addRow; rw [if_pos h0, if_pos hd]
  unfold sysAdd
  rw [if_neg (by simp [hc]), if_neg (by simp [hf.1, hf.2]), e, if_pos rfl]
theorem sysAdd_torn {B K : Nat} {rows : List Rw} {r : Rw} (hc : sysCheck B K rows = 0) (hf : Fit B K r) (h0 : (redRow rows r).fst < 0) (hd : (redRow rows r).data.all (fun c => c == 0) = false) : sysAdd ⟨B, K, rows⟩ r = (Sy.none, false, 9) := by
  have e : addRow rows r = ([], false, 9) := by unfold addRow; rw [if_pos h0, if_neg (by simp [hd])]
  unfold sysAdd
  rw [if_neg (by simp [hc]), if_neg (by simp [hf.1, hf.2]), e, if_neg (by simp)]
theorem sysAdd_new {B K k : Nat} {rows : List Rw} {r : Rw} (hc : sysCheck B K rows = 0) (hf : Fit B K r) (h0 : (redRow rows r).fst = (k : Int)) : sysAdd ⟨B, K, rows⟩ r = (⟨B, K, insRow rows k (redRow rows r)⟩, true, 0) := by
  have e : addRow rows r = (insRow rows k (redRow rows r), true, 0) := by unfold addRow; rw [if_neg (by omega), h0, Int.toNat_natCast]
  unfold sysAdd
  rw [if_neg (by simp [hc]), if_neg (by simp [hf.1, hf.2]), e, if_pos rfl]

set_option maxRecDepth 100000 in
set_option maxHeartbeats 8000000 in
theorem solAdd_ok (w : World) (B K : Nat) (A : Option Addr) (n c : Nat) (rows : List Rw) (h : Sl 2 eRw w (LT w.heap.size) A n rows) (hB : 1 ≤ B ∧ B ≤ 24) (hK : 1 ≤ K ∧ K ≤ 16) (hs : Sys B K rows) (r : Rw) (A1 A2 : Option Addr) (c1 c2 : Nat)
    (ha : Sl 1 eBool w (LT w.heap.size) A1 B r.has) (hd : Sl 1 eByte w (LT w.heap.size) A2 K r.data) :
    Calls Tryz.prog 164 #[.agg #[.int .i64 B, .int .i64 K, .slice A n c], .agg #[.slice A1 B c1, .slice A2 K c2]] w (AddPost w (sysAdd ⟨B, K, rows⟩ r)) := by
  have hlen := h.1
  have hn24 : n ≤ 24 := by have := hs.card; omega
  have hck : Hid (sysCheck B K rows = 0) := sysCheck_of hB hK hs
  have hfr : Hid (Fit B K r) := ⟨ha.1, hd.1⟩
  obtain ⟨B1, B2⟩ := hB
  obtain ⟨K1, K2⟩ := hK
  have t1 : ((B : Int) != (B : Int)) = false := by simp
  have t2 : ((K : Int) != (K : Int)) = false := by simp
  have l1 : Hid (B * 1 ≤ lim) := by unfold Hid lim; omega
  have l2 : Hid (K * 1 ≤ lim) := by unfold Hid lim; omega
  have P1 : 0 < B := B1
  have P2 : 0 < K := K1
  (have H := Lib.hid h; clear h; have Hs := Lib.hid hs; clear hs; have Ha := Lib.hid ha; clear ha; have Hd := Lib.hid hd; clear hd; have Hlen := Lib.hid hlen; clear hlen)
  go_enter Tryz.func164, Tryz.ntmps164
  go_wp2_with fail
  (with_reducible refine (sysCheck_any _ B K (wfI.mk (by omega)) (wfI.mk (by omega)) A n c rows (H.out.go sRw (by (repeat' (first | exact Below.refl _ _ | refine below_drewN ?_ _ | refine Below.drew ?_ | refine frA ?_ _)))) (by unfold maxLen; omega)).mono ?_)
  rw [hck.out]
  rintro e w1 ⟨rfl, hf1⟩
  have hb1 : w1.heap[w.heap.size]? = some (.cells #[.int .i64 B, .int .i64 K, .slice A n c] 233 (0, 0)) := blk_go (by (repeat' (with_reducible (first | (refine heap_new ?_; (first | (simp; done) | rfl); done) | refine heap_dn ?_ | refine heap_d ?_ | refine heap_old ?_)))) hf1
  have hr1 : w1.heap[w.heap.size + 1]? = some (.cells #[.slice A1 B c1, .slice A2 K c2] 242 (0, 0)) := blk_go (heap_old (heap_new (by simp))) hf1
  have hz1 : w1.heap[w.heap.size + 2]? = some (.cells #[.int .i64 0, .int .i64 0, .slice none 0 0] 233 (0, 0)) := blk_go (heap_new (by simp)) hf1
  have HF1 : Hid (Fr w w1) := Fr.trans (by (repeat' (first | exact Below.refl _ _ | refine below_drewN ?_ _ | refine Below.drew ?_ | refine frA ?_ _))) hf1
  (obtain ⟨u0, u1, u2⟩ := box3_ hb1)
  (obtain ⟨v0, v1⟩ := box2_ hr1)
  have HB1 := Lib.hid hb1
  have HR1 := Lib.hid hr1
  have HZ1 := Lib.hid hz1
  clear hf1 hb1 hr1 hz1
  go_wp2_with fail
  (with_reducible refine (sysCopy_any _ B K A n c rows (H.out.go sRw HF1.out) hn24 ⟨B1, B2⟩ ⟨K1, K2⟩ Hs.out.fit).mono ?_)
  rintro e w2 ⟨own, A3, c3, rfl, ⟨hc3, hm3⟩, hO, hf2⟩
  have hb2 := blk_go HB1.out hf2
  have hr2 := blk_go HR1.out hf2
  have hz2 := blk_go HZ1.out hf2
  have ls1 := (Array.getElem?_eq_some_iff.1 HZ1.out).1
  have ls2 := (Array.getElem?_eq_some_iff.1 hz2).1
  have q0 := blk_free (i := 0) hb2
  have q1 := blk_free (i := 1) hb2
  have q2 := blk_free (i := 2) hb2
  (obtain ⟨x0, x1, x2⟩ := box3_ hb2)
  clear u0 u1 u2 v0 v1
  (have Hb2 := Lib.hid hb2; clear hb2; have Hr2 := Lib.hid hr2; clear hr2; have Hz2 := Lib.hid hz2; clear hz2; have HO := Lib.hid hO; clear hO; have Hf2 := Lib.hid hf2; clear hf2)
  go_wp2_with fail
  obtain ⟨W3, hW3⟩ : ∃ W3, W3 = ((w2.setCell ⟨w.heap.size, 0, none⟩ (.int .i64 B)).setCell ⟨w.heap.size, 1, none⟩ (.int .i64 K)).setCell ⟨w.heap.size, 2, none⟩ (.slice A3 n c3) := ⟨_, rfl⟩
  have hC3 : Chg (fun b => b = w.heap.size) w2 W3 := by rw [hW3]; exact Chg.of (grw3_ ⟨rfl, rfl, rfl, Nat.le_refl _, fun _ _ _ => rfl⟩)
  have HB3 : Hid (W3.heap[w.heap.size]? = some (.cells #[.int .i64 B, .int .i64 K, .slice A3 n c3] 233 (0, 0))) := by rw [hW3]; exact stor3_ Hb2.out
  have hR3 := hC3.blk Hr2.out (by omega)
  have HZ3 := Lib.hid (hC3.blk Hz2.out (by omega))
  have HF3 : Hid (Fr w W3) := hC3.fr (HF1.out.trans Hf2.out) fun b hb => by rw [hb]; omega
  have HO3 := Lib.hid (HO.out.chg hC3 fun b hb => .inr (by rw [hb]; omega))
  have hs3 : w2.heap.size ≤ W3.heap.size := hC3.size
  have hs12 := Hf2.out.size
  rw [← hW3]
  clear hW3 hC3 q0 q1 q2 x0 x1 x2 Hb2 Hr2 Hz2 HO Hf2 HB1 HR1 HZ1 ls2
  have hr3 : W3.drew.heap[w.heap.size + 1]? = some (.cells #[.slice A1 B c1, .slice A2 K c2] 242 (0, 0)) := hR3
  have m0 : W3.cell? ⟨w.heap.size + 1, 0, none⟩ = some (.slice A1 B c1) := cell_of_heap hR3
  have m1 : W3.cell? ⟨w.heap.size + 1, 1, none⟩ = some (.slice A2 K c2) := cell_of_heap hR3
  have HR3 := Lib.hid hr3
  have HG3 : Hid (Fr W3 W3.drew) := (Below.refl _ _).drew
  have HA := Lib.hid (Ha.out.go sBool HF3.out)
  have HD := Lib.hid (Hd.out.go sByte HF3.out)
  clear hr3 hR3
  go_cut [] (fun wx => ∃ h ch d cd : Nat, Hid (RBx wx (w.heap.size + 1) h ch d cd B K r) ∧ (W3.heap.size ≤ h ∧ W3.heap.size ≤ d ∧ h ≠ d) ∧ (B ≤ ch ∧ ch ≤ maxLen) ∧ (K ≤ cd ∧ cd ≤ maxLen) ∧ Hid (Chg (fun b => b = w.heap.size + 1) W3 wx))
  case first =>
    go_region_with (first
      | (go_at_call 187; (with_reducible refine (cloneBools_blk _ _ _ _ r.has (HA.out.go sBool HG3.out) l1.out P1).mono ?_); rintro e w5 ⟨h, ch, rfl, hh, hk1, hch, hf5⟩; have HH := Lib.hid (Nat.le_trans HG3.out.size hh); (try (have HNE := Lib.hid (Nat.ne_of_gt (Nat.lt_of_lt_of_le HK2.out.lt hh)))); (try (have HK2 := Lib.hid (HK2.out.fr hf5))); have HK1 := Lib.hid hk1; have HCH := Lib.hid hch; have HG3 := Lib.hid (HG3.out.trans hf5); have HR3 := Lib.hid (blk_go HR3.out hf5); have m0 := cell_of_heap (i := 0) HR3.out; have m1 := cell_of_heap (i := 1) HR3.out; have z0 := blk_free (i := 0) HR3.out; have z1 := blk_free (i := 1) HR3.out; clear hf5 hk1 hh hch)
      | (go_at_call 107; (with_reducible refine (cloneBlock_blk _ _ _ _ r.data (HD.out.go sByte HG3.out) l2.out P2).mono ?_); rintro e w5 ⟨d, cd, rfl, hh, hk2, hcd, hf5⟩; have HD2 := Lib.hid (Nat.le_trans HG3.out.size hh); (try (have HNE := Lib.hid (Nat.ne_of_lt (Nat.lt_of_lt_of_le HK1.out.lt hh)))); (try (have HK1 := Lib.hid (HK1.out.fr hf5))); have HK2 := Lib.hid hk2; have HCD := Lib.hid hcd; have HG3 := Lib.hid (HG3.out.trans hf5); have HR3 := Lib.hid (blk_go HR3.out hf5); have m0 := cell_of_heap (i := 0) HR3.out; have m1 := cell_of_heap (i := 1) HR3.out; have z0 := blk_free (i := 0) HR3.out; have z1 := blk_free (i := 1) HR3.out; clear hf5 hk2 hh hcd)
      | fail)
    all_goals
      have hc6 : Hid (RBx ((w5.setCell ⟨w.heap.size + 1, 0, none⟩ (.slice (some ⟨h, 0, none⟩) B ch)).setCell ⟨w.heap.size + 1, 1, none⟩ (.slice (some ⟨d, 0, none⟩) K cd)) (w.heap.size + 1) h ch d cd B K r) := by
        have k6 : Chg (fun b => b = w.heap.size + 1) w5 ((w5.setCell ⟨w.heap.size + 1, 0, none⟩ (.slice (some ⟨h, 0, none⟩) B ch)).setCell ⟨w.heap.size + 1, 1, none⟩ (.slice (some ⟨d, 0, none⟩) K cd)) := Chg.set (S := fun b => b = w.heap.size + 1) (p := ⟨w.heap.size + 1, 1, none⟩) (Chg.set (S := fun b => b = w.heap.size + 1) (p := ⟨w.heap.size + 1, 0, none⟩) (Chg.refl _ _) rfl _) rfl _
        exact ⟨stor2_ HR3.out, HK1.out.chg k6 (by have := HH.out; omega), HK2.out.chg k6 (by have := HD2.out; omega)⟩
      have hc7 : Hid (Chg (fun b => b = w.heap.size + 1) W3 ((w5.setCell ⟨w.heap.size + 1, 0, none⟩ (.slice (some ⟨h, 0, none⟩) B ch)).setCell ⟨w.heap.size + 1, 1, none⟩ (.slice (some ⟨d, 0, none⟩) K cd))) := Chg.set (S := fun b => b = w.heap.size + 1) (p := ⟨w.heap.size + 1, 1, none⟩) (Chg.set (S := fun b => b = w.heap.size + 1) (p := ⟨w.heap.size + 1, 0, none⟩) (Fr.chg HG3.out) rfl _) rfl _
      go_wp2_with fail
      go_meet
      exact ⟨h, ch, d, cd, hc6, ⟨HH.out, HD2.out, HNE.out⟩, HCH.out, HCD.out, hc7⟩
  case rest =>
    obtain ⟨h, ch, d, cd, HX4, ⟨hh, hd, hne⟩, hch, hcd, HC4⟩ := hcut
    obtain ⟨W4, rfl⟩ : ∃ W4, W4 = wc := ⟨_, rfl⟩
    clear m0 m1 HG3 HR3 HA HD Ha Hd H HF1 l1 l2
    have HB4 := Lib.hid (HC4.out.blk HB3.out (by omega))
    obtain ⟨p4, hp4⟩ : ∃ p4, p4 = w.heap.size + 1 + 1 := ⟨_, rfl⟩
    have HZ4 : Hid (W4.heap[p4]? = some (.cells #[.int .i64 0, .int .i64 0, .slice none 0 0] 233 (0, 0))) := by rw [hp4]; exact HC4.out.blk HZ3.out (by omega)
    have hp41 : p4 ≤ w.heap.size + 2 := by omega
    have hp42 : w.heap.size + 2 ≤ p4 := by omega
    rw [← hp4]
    clear hp4
    have HF4 : Hid (Fr w W4) := HC4.out.fr HF3.out fun b hb => by rw [hb]; omega
    have HO4 := Lib.hid (HO3.out.chg HC4.out fun b hb => .inr (by rw [hb]; omega))
    have hs4 : W3.heap.size ≤ W4.heap.size := HC4.out.size
    clear HC4 HB3 HZ3 HF3 HO3
    have hb4 := HB4.out
    (obtain ⟨x0, x1, x2⟩ := box3_ hb4)
    clear hb4
    go_wp2_with fail
    go_loopw [46] (fun s46 wr => ∃ j : Nat, j ≤ n ∧ s46 = .int .i64 j ∧ Hid (RBx wr (w.heap.size + 1) h ch d cd B K (redRow (rows.take j) r)) ∧ Hid (Chg (fun b => b = h ∨ b = d) W4 wr)) (fun i _ => n - (intOf i).toNat)
    case atStart => exact ⟨0, Nat.zero_le _, rfl, by rw [List.take_zero]; exact HX4, Chg.refl _ _⟩
    case round =>
      obtain ⟨j, hj, rfl, HX, HC⟩ := hrel
      have hpw := HX.out.box
      have hbw := HC.out.blk HB4.out (by omega)
      have hfitj := Lib.hid (redRow_fit (rows := rows.take j) (r := r) (fun o ho => Hs.out.fit o (List.mem_of_mem_take ho)) hfr.out)
      by_cases hlt : j < n
      · obtain ⟨o, ho⟩ : ∃ o, rows[j]? = some o := ⟨_, List.getElem?_eq_getElem (by rw [Hlen.out]; exact hlt)⟩
        have hom := List.mem_of_getElem? ho
        have hfo := Hs.out.fit o hom
        obtain ⟨kf, hkf, _, hkB⟩ := Hs.out.leads hom
        have HOr := Lib.hid (HO4.out.chg HC.out fun b hb => .inl (by rcases hb with hb | hb <;> omega))
        obtain ⟨g, hA3, hM⟩ := HOr.out.pos (by rw [Hlen.out]; omega)
        have hrm := hM.hrow j o ho
        obtain ⟨h', ch', d', cd', o1, o2, hne', m0, m1, hch', hcd', kb1, kb2⟩ := hrm
        rw [hfo.1] at m0 hch'
        rw [hfo.2] at m1 hcd'
        have hgl := World.block_lt_of_cell? wr _ m0
        have oh := HOr.out.top.2.1 _ _ o1
        have od := HOr.out.top.2.1 _ _ o2
        obtain ⟨X, hXe⟩ : ∃ X, X = redRow (rows.take j) r := ⟨_, rfl⟩
        rw [← hXe] at HX hfitj
        obtain ⟨bt, hbt⟩ : ∃ bt, X.has[kf]? = some bt := ⟨_, List.getElem?_eq_getElem (by rw [hfitj.out.1]; exact hkB)⟩
        have hbit : X.bit kf = bt := by unfold Rw.bit; rw [List.getD_eq_getElem?_getD, hbt]; rfl
        have hstep := redRow_take (r := r) ho
        rw [← hXe, hkf, Int.toNat_natCast, hbit] at hstep
        have hcell := HX.out.has.cell hbt
        have HKF : Hid (idxF true o.has = (kf : Int)) := hkf
        have b1 : Hid (Sl 1 eBool wr (fun b => b < wr.heap.size ∧ b ≠ h ∧ b ≠ d) (some ⟨h', 0, none⟩) B o.has) := by
          rw [← hfo.1]; exact kb1.bools ⟨kb1.lt, by omega, by omega⟩
        have b2 : Hid (Sl 1 eByte wr (fun b => b < wr.heap.size ∧ b ≠ h ∧ b ≠ d) (some ⟨d', 0, none⟩) K o.data) := by
          rw [← hfo.2]; exact kb2.bytes ⟨kb2.lt, by omega, by omega⟩
        subst hA3
        have hzp := (Array.getElem?_eq_some_iff.1 hpw).1
        have m2 := cell_of_heap (i := 2) hbw
        have HPW := Lib.hid hpw
        (have Hstep := Lib.hid hstep; clear hstep; have HM := Lib.hid hM; clear hM; have HXe := Lib.hid hXe; clear hXe; have Hbt := Lib.hid hbt; clear hbt; have Hfo := Lib.hid hfo; clear hfo; have Kb1 := Lib.hid kb1; clear kb1; have Kb2 := Lib.hid kb2; clear kb2)
        clear hpw hbw hkf ho hom hbit o1 o2 HOr
        go_wp2_with fail
        obtain ⟨q, hq⟩ : ∃ q, q = wr.heap.size := ⟨_, rfl⟩
        obtain ⟨W5, hW5⟩ : ∃ W5, W5 = wr.alloc (.cells #[.slice (some ⟨h', 0, none⟩) B ch', .slice (some ⟨d', 0, none⟩) K cd'] 242) := ⟨_, rfl⟩
        have HQ5 : Hid (W5.drew.heap[q]? = some (.cells #[.slice (some ⟨h', 0, none⟩) B ch', .slice (some ⟨d', 0, none⟩) K cd'] 242 (0, 0))) := by rw [hW5]; exact heap_new hq
        have hF5 : Fr wr W5 := by rw [hW5]; exact frAlloc _ _
        have HX5 : Hid (RBx W5.drew (w.heap.size + 1) h ch d cd B K X) := HX.out.fr hF5.drew
        have HF5 := Lib.hid hF5
        have HG5 : Hid (Fr W5 W5.drew) := (Below.refl _ _).drew
        have b3 : Hid (Sl 1 eBool W5 (LT W5.heap.size) (some ⟨h', 0, none⟩) B o.has) := (b1.out.more sBool fun b hb => hb.1).go sBool hF5
        have hBm : B ≤ maxLen := by unfold maxLen; omega
        have hq5 : W5.heap.size = q + 1 := by rw [hW5, hq]; simp
        rw [← hW5, ← hq]
        have HQW := Lib.hid hq
        rw [← hq] at hgl hzp
        have HQ1 := Lib.hid hq5
        have hcx : W5.cell? ⟨h, kf, none⟩ = some (.bool bt) := HX5.out.has.cell Hbt.out
        clear hW5 hq hF5 m0 m1 m2 hcell hq5
        go_region_held3 (fun w' => w'.cell? ⟨w.heap.size + 1, 0, none⟩ = some (.slice (some ⟨h, 0, none⟩) B ch) ∧ w'.cell? ⟨q, 0, none⟩ = some (.slice (some ⟨h', 0, none⟩) B ch') ∧ w'.cell? ⟨q, 1, none⟩ = some (.slice (some ⟨d', 0, none⟩) K cd') ∧ w'.cell? ⟨h, kf, none⟩ = some (.bool bt)) (first | exact ⟨cell_of_heap HX5.out.box, cell_of_heap HQ5.out, cell_of_heap HQ5.out, HX5.out.has.cell Hbt.out⟩ | go_keep)
          (first
            | (go_at_call 188; (with_reducible refine (first_at _ _ _ _ _ _ _ o.has kf (b3.out.go sBool HG5.out) hBm HKF.out).mono ?_); rintro e w5 ⟨rfl, hf5⟩; have HG5 := Lib.hid (HG5.out.trans hf5); have HX5 := Lib.hid (HX5.out.fr hf5); have HQ5 := Lib.hid (blk_go HQ5.out hf5); clear hf5)
            | fail)
        have HC5 : Hid (Chg (fun b => b = h ∨ b = d) W4 w5) := HC.out.trans (HF5.out.trans HG5.out).chg
        have hbq := HQ5.out
        (obtain ⟨y0, y1⟩ := box2_ hbq)
        clear hbq
        have La := Lib.hid hfitj.out.1
        have Lb := Lib.hid hfitj.out.2
        have hpp := (Array.getElem?_eq_some_iff.1 HX5.out.box).1
        cases bt with
        | false =>
          have HN : Hid (redRow (rows.take (j + 1)) r = X) := by rw [Hid, Hstep.out, if_neg (by simp)]
          go_wp2_with fail
          go_roundw
          case rel => exact ⟨j + 1, by omega, by go_num, by rw [HN.out]; exact HX5, HC5⟩
          case measure => simp [intOf]; omega
        | true =>
          have HN : Hid (redRow (rows.take (j + 1)) r = rowAdd X o) := by rw [Hid, Hstep.out, if_pos rfl]
          have hbq := HX5.out.box
          (obtain ⟨z0, z1⟩ := box2_ hbq)
          clear hbq
          have hlB : B ≤ lim := by unfold lim; omega
          have hlK : K ≤ lim := by unfold lim; omega
          have NE1 : w.heap.size + 1 ≠ h := by omega
          have NE2 : w.heap.size + 1 ≠ d := by omega
          have f5 := HF5.out.trans HG5.out
          have b4 : Hid (Sl 1 eBool w5 (fun x => x < w5.heap.size ∧ x ≠ h ∧ x ≠ d) (some ⟨h', 0, none⟩) B o.has) := (b1.out.keep sBool fun p hp => f5.cell hp.1).more sBool fun b hb => ⟨Nat.lt_of_lt_of_le hb.1 f5.size, hb.2⟩
          have b5 : Hid (Sl 1 eByte w5 (fun x => x < w5.heap.size ∧ x ≠ h ∧ x ≠ d) (some ⟨d', 0, none⟩) K o.data) := (b2.out.keep sByte fun p hp => f5.cell hp.1).more sByte fun b hb => ⟨Nat.lt_of_lt_of_le hb.1 f5.size, hb.2⟩
          clear f5
          go_wp2_with fail
          (with_reducible refine (rowAdd_any w5 (w.heap.size + 1) 0 h d B ch K cd X o _ _ _ _ ch' cd' z0 z1 HX5.out.has HX5.out.data hne NE1 NE2 La.out Lb.out hlB hlK b4.out b5.out).mono ?_)
          rintro e w6 ⟨rfl, k1', k2', k3'⟩
          have HX6 : Hid (RBx w6 (w.heap.size + 1) h ch d cd B K (rowAdd X o)) := ⟨k3'.blk HX5.out.box (by omega), k1', k2'⟩
          have HC6 : Hid (Chg (fun b => b = h ∨ b = d) W4 w6) := HC5.out.trans k3'
          clear k1' k2' k3' HX5 HQ5 HG5 y0 y1 z0 z1 b4 b5
          go_wp2_with fail
          go_roundw
          case rel => exact ⟨j + 1, by omega, by go_num, by rw [HN.out]; exact HX6, HC6⟩
          case measure => simp [intOf]; omega
      · obtain rfl : j = n := by omega
        rw [List.take_of_length_le (by rw [Hlen.out]; exact Nat.le_refl _)] at HX hfitj
        obtain ⟨X, hXe⟩ : ∃ X, X = redRow rows r := ⟨_, rfl⟩
        rw [← hXe] at HX hfitj
        have HO5 := Lib.hid (HO4.out.chg HC.out fun b hb => .inl (by rcases hb with hb | hb <;> omega))
        have HF5 : Hid (Fr w wr) := HC.out.fr HF4.out fun b hb => by rcases hb with hb | hb <;> omega
        have HZ5 := Lib.hid (HC.out.blk HZ4.out (by omega))
        have HB5 := Lib.hid hbw
        have hs5 : W4.heap.size ≤ wr.heap.size := HC.out.size
        clear HO4 HF4 HZ4 HB4 HC hbw hpw HX4
        obtain ⟨W5, rfl⟩ : ∃ W5, W5 = wr := ⟨_, rfl⟩
        have hbq := HX.out.box
        (obtain ⟨z0, z1⟩ := box2_ hbq)
        clear hbq
        have hbx : Hid (Sl 1 eBool W5 (LT W5.heap.size) (some ⟨h, 0, none⟩) B X.has) := by rw [← hfitj.out.1]; exact HX.out.has.bools HX.out.has.lt
        have hBm : B ≤ maxLen := by unfold maxLen; omega
        (have HXe := Lib.hid hXe; clear hXe)
        have hsck := hck.out
        obtain ⟨kx, hkx⟩ : ∃ kx, kx = X.fst := ⟨_, rfl⟩
        have HKX : Hid (idxF true X.has = kx) := hkx.symm
        by_cases hneg : kx < 0
        · have hxr : Hid ((redRow rows r).fst < 0) := by rw [Hid, ← HXe.out, ← hkx]; exact hneg
          have hdt : Hid (Sl 1 eByte W5 (LT W5.heap.size) (some ⟨d, 0, none⟩) K X.data) := by rw [← hfitj.out.2]; exact HX.out.data.bytes HX.out.data.lt
          have hKm : K ≤ maxLen := by unfold maxLen; omega
          cases hall : X.data.all (fun b => b == 0) with
          | true =>
            have E : Hid (sysAdd ⟨B, K, rows⟩ r = (⟨B, K, rows⟩, false, 0)) := sysAdd_same hsck hfr.out hxr.out (by rw [← HXe.out]; exact hall)
            have HAL := Lib.hid hall
            clear hsck hkx hall
            go_wp2_with fail
            (with_reducible refine (first_any _ _ _ _ _ _ _ X.has hbx.out hBm).mono ?_)
            rw [HKX.out]
            rintro e w6 ⟨rfl, hf6⟩
            have HX6 := Lib.hid (HX.out.fr hf6)
            have hbq := HX6.out.box
            (obtain ⟨z0, z1⟩ := box2_ hbq)
            have HF6 := Lib.hid hf6
            clear hbq hf6
            go_wp2_with fail
            (with_reducible refine (containsNot_any _ _ _ _ _ X.data (hdt.out.go sByte HF6.out) hKm).mono ?_)
            rw [HAL.out]
            rintro e w7 ⟨rfl, rfl⟩
            have hb6 := blk_go HB5.out HF6.out
            (obtain ⟨x0, x1, x2⟩ := box3_ hb6)
            have hz6 := blk_go HZ5.out HF6.out
            (obtain ⟨u0, u1, u2⟩ := box3_ hz6)
            have y0 := blk_free (i := 0) hz6
            have y1 := blk_free (i := 1) hz6
            have y2 := blk_free (i := 2) hz6
            have hzl := (Array.getElem?_eq_some_iff.1 hz6).1
            have hC7 : Chg (fun b => b = p4) w6 (((w6.setCell ⟨p4, 0, none⟩ (.int .i64 B)).setCell ⟨p4, 1, none⟩ (.int .i64 K)).setCell ⟨p4, 2, none⟩ (.slice A3 j c3)) := Chg.of (grw3_ ⟨rfl, rfl, rfl, Nat.le_refl _, fun _ _ _ => rfl⟩)
            have HC7 := Lib.hid hC7
            clear hb6 hz6 hC7
            go_wp2_with fail
            refine bodyPost_ret (v := .tuple #[.agg #[.int .i64 B, .int .i64 K, .slice A3 j c3], .bool false, .int .i64 0]) ?_ rfl ?_
            · simp [results, Tryz.results164, go_sem, u0, u1, u2, hzl]
            · have hO7 := (HO5.out.chg HF6.out.chg (S := fun _ => False) fun b hb => hb.elim).chg HC7.out fun b hb => .inr (by rw [hb]; omega)
              obtain ⟨A7, c7, e7, hc7, hs7⟩ := (hO7.toOwn B2 K2 Hs.out.fit).toNw sRw
              injection e7 with e7 e8 e9
              subst e7 e9
              rw [Hlen.out] at hs7
              rw [E.out]
              refine ⟨A3, j, c3, rfl, ⟨hn24, hc3, hm3⟩, hs7.more sRw fun b hb => ⟨by have := hb.1; omega, hb.2⟩, ?_⟩
              exact HC7.out.fr (HF5.out.trans HF6.out) fun b hb => by rw [hb]; omega
          | false =>
            have E : Hid (sysAdd ⟨B, K, rows⟩ r = (Sy.none, false, 9)) := sysAdd_torn hsck hfr.out hxr.out (by rw [← HXe.out]; exact hall)
            have HAL := Lib.hid hall
            clear hsck hkx hall
            go_wp2_with fail
            (with_reducible refine (first_any _ _ _ _ _ _ _ X.has hbx.out hBm).mono ?_)
            rw [HKX.out]
            rintro e w6 ⟨rfl, hf6⟩
            have HX6 := Lib.hid (HX.out.fr hf6)
            have hbq := HX6.out.box
            (obtain ⟨z0, z1⟩ := box2_ hbq)
            have HF6 := Lib.hid hf6
            clear hbq hf6
            go_wp2_with fail
            (with_reducible refine (containsNot_any _ _ _ _ _ X.data (hdt.out.go sByte HF6.out) hKm).mono ?_)
            rw [HAL.out]
            rintro e w7 ⟨rfl, rfl⟩
            have hz6 := blk_go HZ5.out HF6.out
            (obtain ⟨u0, u1, u2⟩ := box3_ hz6)
            have y0 := blk_free (i := 0) hz6
            have y1 := blk_free (i := 1) hz6
            have y2 := blk_free (i := 2) hz6
            have hzl := (Array.getElem?_eq_some_iff.1 hz6).1
            clear hz6
            go_wp2_with fail
            refine bodyPost_ret (v := .tuple #[.agg #[.int .i64 0, .int .i64 0, .slice none 0 0], .bool false, .int .i64 9]) ?_ rfl ?_
            · simp [results, Tryz.results164, go_sem, u0, u1, u2, hzl]
            · rw [E.out]
              refine ⟨none, 0, 0, rfl, ⟨by omega, by omega, by unfold maxLen; omega⟩, Sl.nil, ?_⟩
              exact bel3_ (HF5.out.trans HF6.out) (by omega)
        · obtain ⟨k, rfl⟩ : ∃ k : Nat, kx = (k : Int) := ⟨kx.toNat, by omega⟩
          have E : Hid (sysAdd ⟨B, K, rows⟩ r = (⟨B, K, insRow rows k X⟩, true, 0)) := by rw [Hid, HXe.out]; exact sysAdd_new hsck hfr.out (by rw [← HXe.out]; exact hkx.symm)
          have HLD : Hid (Lead (vc X) k) := fst_lead.1 hkx.symm
          have hkB : k < B := lead_lt hfitj.out HLD.out.1
          clear hsck hkx hneg
          go_wp2_with fail
          (with_reducible refine (first_at _ _ _ _ _ _ _ X.has k hbx.out hBm HKX.out).mono ?_)
          rintro e w6 ⟨rfl, hf6⟩
          have HX6 := Lib.hid (HX.out.fr hf6)
          have HB6 := Lib.hid (blk_go HB5.out hf6)
          have HZ6 := Lib.hid (blk_go HZ5.out hf6)
          have HO6 := Lib.hid (HO5.out.chg (hf6.chg (S := fun _ => False)) fun b hb => hb.elim)
          have HF6 : Hid (Fr w w6) := HF5.out.trans hf6
          have hs6 : W5.heap.size ≤ w6.heap.size := hf6.size
          have hb6 := HB6.out
          (obtain ⟨x0, x1, x2⟩ := box3_ hb6)
          clear hb6 hf6 HX HB5 HZ5 HO5 HF5 z0 z1 hbx
          obtain ⟨Kb, hKb⟩ : ∃ Kb : Nat → Prop, Kb = fun b => ∃ i, own b = some i := ⟨_, rfl⟩
          have HKb := Lib.hid hKb
          have HKl : Hid (∀ b, Kb b → w1.heap.size ≤ b ∧ b < w2.heap.size) := fun b hb => by rw [hKb] at hb; obtain ⟨i, e⟩ := hb; exact ⟨HO6.out.low b i e, HO6.out.top.2.1 b i e⟩
          clear hKb
          go_wp2_with fail
          go_loopw [11, 74] (fun s11 s74 wr => ∃ i : Nat, i ≤ j ∧ s74 = .int .i64 i ∧ s11 = .int .i64 (atTo k X rows i : Nat) ∧ Hid (SysO wr own w1.heap.size w2.heap.size A3 c3 (outTo k X rows i)) ∧ Hid (Chg Kb w6 wr)) (fun _ i _ => j - (intOf i).toNat)
          case atStart => exact ⟨0, Nat.zero_le _, rfl, by rw [atTo_zero, Hlen.out], by rw [outTo_zero]; exact HO6, Chg.refl _ _⟩
          case round =>
            obtain ⟨i, hi, rfl, rfl, HO, HC⟩ := hrel
            have HBr := Lib.hid (HC.out.blk HB6.out fun e => by have := HKl.out _ e; omega)
            have HXr := Lib.hid (HX6.out.chg HC.out (fun e => by have := HKl.out _ e; omega) (fun e => by have := HKl.out _ e; omega) (fun e => by have := HKl.out _ e; omega))
            have hbr := HBr.out
            (obtain ⟨v0, v1, v2⟩ := box3_ hbr)
            clear hbr
            by_cases hlt : i < j
            · obtain ⟨o, ho⟩ : ∃ o, rows[i]? = some o := ⟨_, List.getElem?_eq_getElem (by rw [Hlen.out]; exact hlt)⟩
              have hfo := Hs.out.fit o (List.mem_of_getElem? ho)
              have hol := length_outTo (k := k) (r := X) (rows := rows) (i := i) (by rw [Hlen.out]; omega)
              rw [Hlen.out] at hol
              obtain ⟨g, hA3, hM⟩ := HO.out.pos (by omega)
              have hrm := hM.hrow i o (outTo_get ho)
              subst hA3
              obtain ⟨h', ch', d', cd', o1, o2, hne', m0, m1, hch', hcd', kb1, kb2⟩ := hrm
              rw [hfo.1] at m0 hch'
              rw [hfo.2] at m1 hcd'
              obtain ⟨bt, hbt⟩ : ∃ bt, o.has[k]? = some bt := ⟨_, List.getElem?_eq_getElem (by rw [hfo.1]; exact hkB)⟩
              have hbit : o.bit k = bt := by unfold Rw.bit; rw [List.getD_eq_getElem?_getD, hbt]; rfl
              have hcell := kb1.cell hbt
              have hstep := outTo_succ (k := k) (r := X) ho
              have hats := atTo_succ (k := k) (r := X) ho
              rw [Hlen.out] at hats
              have hale := atTo_le k X rows i
              rw [Hlen.out] at hale
              obtain ⟨oh1, oh2⟩ := HKl.out h' (by rw [HKb.out]; exact ⟨i, o1⟩)
              obtain ⟨od1, od2⟩ := HKl.out d' (by rw [HKb.out]; exact ⟨i, o2⟩)
              have hg1 := hM.hbase
              have hg2 : g < w2.heap.size := HO.out.top.1 _ rfl
              have hgh := (hM.hown _ _ o1).2.1
              have hgd := (hM.hown _ _ o2).2.1
              obtain ⟨at_, hat_⟩ : ∃ a, a = atTo k X rows i := ⟨_, rfl⟩
              rw [← hat_] at hats hale ⊢
              obtain ⟨O, hOe⟩ : ∃ O, O = outOf k X o := ⟨_, rfl⟩
              rw [← hOe] at hstep hats
              have HOf : Hid (Fit B K O) := by rw [hOe]; exact outOf_fit hfitj.out hfo
              have HOe : Hid (O = if bt then rowAdd o X else o) := by rw [Hid, hOe]; unfold outOf; rw [hbit]
              have La := Lib.hid hfo.1
              have Lb := Lib.hid hfo.2
              have HOW1 := Lib.hid o1
              have HOW2 := Lib.hid o2
              (have Hstep := Lib.hid hstep; clear hstep; have Hats := Lib.hid hats; clear hats; have Hat_ := Lib.hid hat_; clear hat_; have HM := Lib.hid hM; clear hM; have Kb1 := Lib.hid kb1; clear kb1; have Kb2 := Lib.hid kb2; clear kb2; have Ho := Lib.hid ho; clear ho)
              clear hbt hbit hol hOe o1 o2 hfo
              go_upto_if 85 with fail
              go_cut [] (fun wx => Hid (SysO wx own w1.heap.size w2.heap.size (some ⟨g, 0, none⟩) c3 (outTo k X rows (i + 1))) ∧ Hid (Chg Kb w6 wx))
              case first =>
                cases bt with
                | false =>
                  have hN : Hid (outTo k X rows (i + 1) = outTo k X rows i) := by
                    rw [Hid, ← Hstep.out, HOe.out, if_neg (by simp)]
                    apply List.ext_getElem?
                    intro m
                    rw [List.getElem?_set]
                    split
                    · rename_i e; subst e
                      split
                      · exact (outTo_get Ho.out).symm
                      · rename_i e; rw [List.getElem?_eq_none (by omega)]
                    · rfl
                  go_wp2_with fail
                  go_meet
                  exact ⟨by rw [hN.out]; exact HO, HC⟩
                | true =>
                  have hbq := HXr.out.box
                  (obtain ⟨z0, z1⟩ := box2_ hbq)
                  clear hbq
                  have hlB : B ≤ lim := by unfold lim; omega
                  have hlK : K ≤ lim := by unfold lim; omega
                  have b4 : Hid (Sl 1 eBool wr (fun x => x < wr.heap.size ∧ x ≠ h' ∧ x ≠ d') (some ⟨h, 0, none⟩) B X.has) := by
                    rw [← hfitj.out.1]; exact HXr.out.has.bools ⟨HXr.out.has.lt, by omega, by omega⟩
                  have b5 : Hid (Sl 1 eByte wr (fun x => x < wr.heap.size ∧ x ≠ h' ∧ x ≠ d') (some ⟨d, 0, none⟩) K X.data) := by
                    rw [← hfitj.out.2]; exact HXr.out.data.bytes ⟨HXr.out.data.lt, by omega, by omega⟩
                  go_wp2_with fail
                  go_still_tail 5, (by kernel_rfl)
                  go_wp2_with fail
                  have m0d : wr.drew.cell? ⟨g, i * 2, none⟩ = some (.slice (some ⟨h', 0, none⟩) B ch') := m0
                  have m1d : wr.drew.cell? ⟨g, i * 2 + 1, none⟩ = some (.slice (some ⟨d', 0, none⟩) K cd') := m1
                  have KD1 : Hid (Blk Value.bool wr.drew 4 h' o.has) := Kb1.out
                  have KD2 : Hid (Blk bV wr.drew 5 d' o.data) := Kb2.out
                  have BD4 : Hid (Sl 1 eBool wr.drew (fun x => x < wr.drew.heap.size ∧ x ≠ h' ∧ x ≠ d') (some ⟨h, 0, none⟩) B X.has) := b4.out.keep sBool fun _ _ => rfl
                  have BD5 : Hid (Sl 1 eByte wr.drew (fun x => x < wr.drew.heap.size ∧ x ≠ h' ∧ x ≠ d') (some ⟨d, 0, none⟩) K X.data) := b5.out.keep sByte fun _ _ => rfl
                  (with_reducible refine (rowAdd_any _ g (i * 2) h' d' B ch' K cd' o X _ _ _ _ ch cd m0d m1d KD1.out KD2.out hne' (Ne.symm hgh) (Ne.symm hgd) La.out Lb.out hlB hlK BD4.out BD5.out).mono ?_)
                  rintro e w7 ⟨rfl, q1, q2, q3⟩
                  have hq : Chg (fun b => b = h' ∨ b = d') wr w7 := ⟨q3.os, q3.tape, q3.output, q3.size, q3.block⟩
                  have hRM : RowM w7 own g i O := by
                    rw [HOe.out, if_pos trivial]
                    refine ⟨h', ch', d', cd', HOW1.out, HOW2.out, hne', ?_, ?_, ?_, ?_, q1, q2⟩
                    · rw [show (rowAdd o X).has.length = B by show (bx o.has X.has).length = B; rw [length_bx (by rw [La.out, hfitj.out.1]), La.out]]
                      exact (hq.cell (p := ⟨g, i * 2, none⟩) (World.block_lt_of_cell? wr _ m0) (by rintro (e | e) <;> simp at e <;> omega)).trans m0
                    · rw [show (rowAdd o X).data.length = K by show (zx o.data X.data).length = K; rw [length_zx (by rw [Lb.out, hfitj.out.2]), Lb.out]]
                      exact (hq.cell (p := ⟨g, i * 2 + 1, none⟩) (World.block_lt_of_cell? wr _ m1) (by rintro (e | e) <;> simp at e <;> omega)).trans m1
                    · rw [show (rowAdd o X).has.length = B by show (bx o.has X.has).length = B; rw [length_bx (by rw [La.out, hfitj.out.1]), La.out]]
                      exact hch'
                    · rw [show (rowAdd o X).data.length = K by show (zx o.data X.data).length = K; rw [length_zx (by rw [Lb.out, hfitj.out.2]), Lb.out]]
                      exact hcd'
                  have HO7 : Hid (SysO w7 own w1.heap.size w2.heap.size (some ⟨g, 0, none⟩) c3 (outTo k X rows (i + 1))) := by
                    rw [← Hstep.out]
                    refine HO.out.set (by rw [length_outTo (by rw [Hlen.out]; omega), Hlen.out]; exact hlt) (hq.more fun b hb => ?_) hRM
                    rcases hb with rfl | rfl
                    · exact HOW1.out
                    · exact HOW2.out
                  have HC7 : Hid (Chg Kb w6 w7) := HC.out.trans (hq.more fun b hb => by
                    rw [HKb.out]
                    rcases hb with rfl | rfl
                    · exact ⟨i, HOW1.out⟩
                    · exact ⟨i, HOW2.out⟩)
                  clear q1 q2 q3 hq hRM
                  go_wp2_with fail
                  go_meet
                  exact ⟨HO7, HC7⟩
              case rest =>
                obtain ⟨HO7, HC7⟩ := hcut
                obtain ⟨W7, rfl⟩ : ∃ W7, W7 = wc := ⟨_, rfl⟩
                clear m0 m1 hcell Kb1 Kb2 HM HO HC HBr HXr v0 v1 v2
                have hb7 := HC7.out.blk HB6.out fun e => by have := HKl.out _ e; omega
                (obtain ⟨v0, v1, v2⟩ := box3_ hb7)
                clear hb7
                have hm7 := (HO7.out.pos (by rw [length_outTo (by rw [Hlen.out]; omega), Hlen.out]; omega))
                obtain ⟨g', e', hM7⟩ := hm7
                injection e' with e'
                injection e' with e'
                subst e'
                have hO7 : (outTo k X rows (i + 1))[i]? = some O := by rw [← Hstep.out, List.getElem?_set_self (by rw [length_outTo (by rw [Hlen.out]; omega), Hlen.out]; exact hlt)]
                obtain ⟨h7, ch7, d7, cd7, o1, o2, _, m0, m1, _, _, kb1, kb2⟩ := hM7.hrow i O hO7
                rw [HOf.out.1] at m0
                rw [HOf.out.2] at m1
                have hB7 : Hid (Sl 1 eBool W7 (LT W7.heap.size) (some ⟨h7, 0, none⟩) B O.has) := by rw [← HOf.out.1]; exact kb1.bools kb1.lt
                clear o1 o2 kb1 kb2 hM7 hO7
                by_cases hat : at_ = j
                · have e1 : ((at_ : Int) == (j : Int)) = true := by simp [hat]
                  obtain ⟨kq, hkq⟩ : ∃ kq, kq = O.fst := ⟨_, rfl⟩
                  have HKQ : Hid (idxF true O.has = kq) := hkq.symm
                  rw [← hkq] at Hats
                  by_cases hgt : (k : Int) < kq
                  · have HN : Hid (atTo k X rows (i + 1) = i) := by rw [Hid, Hats.out, if_pos ⟨hat, hgt⟩]
                    clear hkq hat
                    go_wp2_with fail
                    (with_reducible refine (first_any _ _ _ _ _ _ _ O.has hB7.out hBm).mono ?_)
                    rw [HKQ.out]
                    rintro e w8 ⟨rfl, hf8⟩
                    have HO8 := Lib.hid (HO7.out.chg (hf8.chg (S := fun _ => False)) fun b hb => hb.elim)
                    have HC8 : Hid (Chg Kb w6 w8) := HC7.out.trans hf8.chg
                    clear hf8
                    go_wp2_with fail
                    go_roundw
                    case rel => exact ⟨i + 1, by omega, by go_num, by rw [HN.out], HO8, HC8⟩
                    case measure => simp [intOf]; omega
                  · have HN : Hid (atTo k X rows (i + 1) = at_) := by rw [Hid, Hats.out, if_neg (fun e => hgt e.2)]
                    have hgt2 : ¬ ((k : Int) < kq) := hgt
                    clear hkq hat hgt
                    go_wp2_with fail
                    (with_reducible refine (first_any _ _ _ _ _ _ _ O.has hB7.out hBm).mono ?_)
                    rw [HKQ.out]
                    rintro e w8 ⟨rfl, hf8⟩
                    have HO8 := Lib.hid (HO7.out.chg (hf8.chg (S := fun _ => False)) fun b hb => hb.elim)
                    have HC8 : Hid (Chg Kb w6 w8) := HC7.out.trans hf8.chg
                    clear hf8
                    go_wp2_with fail
                    go_roundw
                    case rel => exact ⟨i + 1, by omega, by go_num, by rw [HN.out], HO8, HC8⟩
                    case measure => simp [intOf]; omega
                · have e1 : ((at_ : Int) == (j : Int)) = false := by simp; omega
                  have HN : Hid (atTo k X rows (i + 1) = at_) := by rw [Hid, Hats.out, if_neg (fun e => hat e.1)]
                  clear hat
                  go_wp2_with fail
                  go_roundw
                  case rel => exact ⟨i + 1, by omega, by go_num, by rw [HN.out], HO7, HC7⟩
                  case measure => simp [intOf]; omega
            · obtain rfl : i = j := by omega
              have ha0 := atTo_all k X rows
              rw [Hlen.out] at ha0
              have ho0 := outTo_all k X rows
              rw [Hlen.out] at ho0
              have hal := atTo_le k X rows i
              rw [Hlen.out] at hal
              rw [ho0] at HO
              rw [ha0] at hal ⊢
              obtain ⟨R', hR'⟩ : ∃ R', R' = rows.map (outOf k X) := ⟨_, rfl⟩
              obtain ⟨at_, hat_⟩ : ∃ a, a = insAt k (rows.map (outOf k X)) := ⟨_, rfl⟩
              have hRl : R'.length = i := by rw [hR', List.length_map, Hlen.out]
              have hEi : Hid (insRow rows k X = R'.take at_ ++ X :: R'.drop at_) := by rw [Hid, hR', hat_]; rfl
              have hRf : Hid (∀ o ∈ R', Fit B K o) := by
                rw [hR']; intro o ho
                obtain ⟨x, hx, rfl⟩ := List.mem_map.1 ho
                exact outOf_fit hfitj.out (Hs.out.fit x hx)
              rw [← hR'] at HO
              rw [← hat_] at hal ⊢
              clear ha0 ho0 hR' hat_
              have hbq := HXr.out.box
              (obtain ⟨z0, z1⟩ := box2_ hbq)
              clear hbq
              go_wp2_with fail
              obtain ⟨W8, hW8⟩ : ∃ W8, W8 = wr.alloc (.cells #[.slice (some ⟨h, 0, none⟩) B ch, .slice (some ⟨d, 0, none⟩) K cd] 242) := ⟨_, rfl⟩
              have hf8 : Fr wr W8 := by rw [hW8]; exact frAlloc _ _
              have HV8 : Hid (W8.heap[wr.heap.size]? = some (.cells #[.slice (some ⟨h, 0, none⟩) B ch, .slice (some ⟨d, 0, none⟩) K cd] 242 (0, 0))) := by rw [hW8]; exact heap_new rfl
              have HO8 := HO.out.chg (hf8.chg (S := fun _ => False)) fun b hb => hb.elim
              have HX8 := HXr.out.fr hf8
              have HB8 := Lib.hid (blk_go HBr.out hf8)
              have HZ8 : Hid (W8.heap[p4]? = some (.cells #[.int .i64 0, .int .i64 0, .slice none 0 0] 233 (0, 0))) := blk_go (HC.out.blk HZ6.out fun e => by have := HKl.out _ e; omega) hf8
              have HF8 : Hid (Fr w W8) := (HC.out.fr HF6.out fun b hb => by have := (HKl.out _ hb).1; omega).trans hf8
              have hs8 : w6.heap.size ≤ wr.heap.size := HC.out.size
              have hown := HO8.toOwn B2 K2 hRf.out
              rw [hRl] at hown
              have hA3 : (Value.slice A3 i c3).ownBlock ≠ some wr.heap.size := by
                intro e
                cases A3 with
                | none => cases e
                | some a => have := HO8.top.1 a rfl; injection e with e; omega
              have hvs : Hid (eHi w1.heap.size eRw W8 (fun b => b < W8.heap.size ∧ (Value.slice A3 i c3).ownBlock ≠ some b) (fun j => [Value.slice (some ⟨h, 0, none⟩) B ch, .slice (some ⟨d, 0, none⟩) K cd][j]?) X) := by
                have far : ∀ b, w2.heap.size ≤ b → (Value.slice A3 i c3).ownBlock ≠ some b := fun b hb e => by
                  cases A3 with
                  | none => cases e
                  | some a => have := HO8.top.1 a rfl; injection e with e; omega
                have hb1 := HX8.has.bools (S := fun b => (b < W8.heap.size ∧ (Value.slice A3 i c3).ownBlock ≠ some b) ∧ w1.heap.size ≤ b) ⟨⟨HX8.has.lt, far h (by omega)⟩, by omega⟩
                have hb2 := HX8.data.bytes (S := fun b => (b < W8.heap.size ∧ (Value.slice A3 i c3).ownBlock ≠ some b) ∧ w1.heap.size ≤ b) ⟨⟨HX8.data.lt, far d (by omega)⟩, by omega⟩
                rw [hfitj.out.1] at hb1
                rw [hfitj.out.2] at hb2
                exact eRw_iff.2 ⟨_, _, _, _, _, _, ⟨rfl, rfl⟩, ⟨⟨by unfold lim; omega, hch⟩, hb1⟩, ⟨⟨by unfold lim; omega, hcd⟩, hb2⟩⟩
              have HOW := Lib.hid hown
              have HFAR : Hid (∀ b, b < w1.heap.size → (Value.slice A3 i c3).ownBlock ≠ some b) := fun b hb => hown.far hb
              have hlm : (R'.length + 1) * 48 ≤ lim := by unfold lim; omega
              have hbs : w1.heap.size ≤ W8.heap.size := by have := hf8.size; omega
              have hone : ∀ u ∈ [Value.slice (some ⟨h, 0, none⟩) B ch, .slice (some ⟨d, 0, none⟩) K cd], u.oneCell' = true := by intro u hu; simp at hu; rcases hu with rfl | rfl <;> rfl
              have hal' : at_ ≤ R'.length := by omega
              have HCT := Lib.hid (insertRows_own (N := w1.heap.size) W8 w1.heap.size at_ wr.heap.size (.slice A3 i c3) R' X _ _ HOW.out hal' HV8.out hA3 rfl hone hvs.out hlm hbs)
              rw [← hW8]
              clear hW8 hf8 HO8 HX8 hown hA3 hone hvs HOW HX6 HXr HO HC HBr HB6 HZ6 HF6 v0 v1 v2 z0 z1
              (with_reducible refine (HCT.out).mono ?_)
              rintro e w9 ⟨v', rfl, ho9, hG9⟩
              have hb9 : w9.heap[w.heap.size]? = some (.cells #[.int .i64 B, .int .i64 K, .slice A3 i c3] 233 (0, 0)) := (hG9.block _ (Array.getElem?_eq_some_iff.1 HB8.out).1 fun e => HFAR.out _ (by omega) e.symm).trans HB8.out
              have hz9 : w9.heap[p4]? = some (.cells #[.int .i64 0, .int .i64 0, .slice none 0 0] 233 (0, 0)) := (hG9.block _ (Array.getElem?_eq_some_iff.1 HZ8.out).1 fun e => HFAR.out _ (by omega) e.symm).trans HZ8.out
              have HF9 : Hid (Fr w w9) := ⟨hG9.os.trans HF8.out.os, hG9.tape.trans HF8.out.tape, hG9.output.trans HF8.out.output, Nat.le_trans HF8.out.size hG9.size, fun b hb => (hG9.block b (Nat.lt_of_lt_of_le hb HF8.out.size) fun e => HFAR.out b (by omega) e.symm).trans (HF8.out.block b hb)⟩
              obtain ⟨A9, c9, rfl, ⟨hc9, hm9⟩, _⟩ := ho9.slC (sRw.hi _) (by decide)
              have hl9 : (R'.take at_ ++ X :: R'.drop at_).length = i + 1 := by simp only [List.length_append, List.length_take, List.length_cons, List.length_drop]; omega
              rw [hl9] at ho9 hc9 ⊢
              have hn9 : i + 1 ≤ 24 := by have := (insRow_sys Hs.out hfitj.out HLD.out (by have := redRow_clean Hs.out hfr.out; rw [← HXe.out] at this; exact this)).1.card; rw [length_insRow, Hlen.out] at this; omega
              (obtain ⟨x0, x1, x2⟩ := box3_ hb9)
              (obtain ⟨u0, u1, u2⟩ := box3_ hz9)
              have q2 := blk_free (i := 2) hb9
              have y0 := blk_free (i := 0) hz9
              have y1 := blk_free (i := 1) hz9
              have y2 := blk_free (i := 2) hz9
              have hbl := (Array.getElem?_eq_some_iff.1 hb9).1
              have hzl := (Array.getElem?_eq_some_iff.1 hz9).1
              have hp4 : w.heap.size ≠ p4 := by omega
              have hC9 : Chg (fun b => b = w.heap.size ∨ b = p4) w9 ((((w9.setCell ⟨w.heap.size, 2, none⟩ (.slice A9 (i + 1) c9)).setCell ⟨p4, 0, none⟩ (.int .i64 B)).setCell ⟨p4, 1, none⟩ (.int .i64 K)).setCell ⟨p4, 2, none⟩ (.slice A9 (i + 1) c9)) :=
                Chg.set (p := ⟨p4, 2, none⟩) (Chg.set (p := ⟨p4, 1, none⟩) (Chg.set (p := ⟨p4, 0, none⟩) (Chg.set (p := ⟨w.heap.size, 2, none⟩) (Chg.refl _ _) (.inl rfl) _) (.inr rfl) _) (.inr rfl) _) (.inr rfl) _
              have HC9 := Lib.hid hC9
              have HO9 := Lib.hid ho9
              have HG9 := Lib.hid hG9
              clear hb9 hz9 hC9 ho9 hl9 hG9
              go_wp2_with fail
              refine bodyPost_ret (v := .tuple #[.agg #[.int .i64 B, .int .i64 K, .slice A9 (i + 1) c9], .bool true, .int .i64 0]) ?_ rfl ?_
              · simp [results, Tryz.results164, go_sem, u0, u1, u2, hzl]
              · rw [E.out]
                have ho10 := HO9.out.hiChg sRw HC9.out fun b hb => by rcases hb with rfl | rfl <;> omega
                obtain ⟨A10, c10, e10, _, hs10⟩ := ho10.toNw sRw
                injection e10 with e10 e11 e12
                subst e10 e12
                rw [← e11] at hs10
                refine ⟨A9, i + 1, c9, rfl, ⟨hn9, hc9, hm9⟩, ?_, ?_⟩
                · show Sl 2 eRw _ _ A9 (i + 1) (insRow rows k X)
                  rw [hEi.out]; exact hs10.more sRw fun b hb => ⟨by have := hb.1; omega, hb.2⟩
                · exact HC9.out.fr HF9.out fun b hb => by rcases hb with rfl | rfl <;> omega
end Go.Proofs.YtmiaplgfbphfmaaGreatDoor
namespace Go.Proofs.YtmiaplgfbphfmaaGreatDoor
open Go.RowKit
attribute [local irreducible] wpList

def sysNew (B K : Int) : Sy × Int := if sysCheck B K [] ≠ 0 then (Sy.none, sysCheck B K []) else (⟨B, K, []⟩, 0)

set_option maxRecDepth 100000 in
set_option maxHeartbeats 1000000 in
theorem solNew_any (w : World) (B K : Int) (wB : wfI B) (wK : wfI K) :
    Calls Tryz.prog 162 #[.int .i64 B, .int .i64 K] w fun e w' => e = .returned (.tuple #[.agg #[.int .i64 (sysNew B K).1.blocks, .int .i64 (sysNew B K).1.block, .slice none 0 0], .int .i64 (sysNew B K).2]) ∧ Fr w w' := by
  obtain ⟨ck, hck⟩ : ∃ ck, ck = sysCheck B K [] := ⟨_, rfl⟩
  have hm : 0 ≤ maxLen := Nat.zero_le _
  have CK := Lib.hid hck
  by_cases h0 : ck = 0
  · have E : Hid (sysNew B K = (⟨B, K, []⟩, 0)) := by unfold sysNew Hid; rw [← hck, if_neg (by simp [h0])]
    rw [E.out]
    have e1 : (ck != 0) = false := by simp [h0]
    clear hck h0
    go_enter Tryz.func162, Tryz.ntmps162
    go_wp2_with fail
    (with_reducible refine (sysCheck_any _ B K wB wK none 0 0 [] Sl.nil hm).mono ?_)
    rw [← CK.out]
    rintro e w1 ⟨rfl, hf1⟩
    have hz1 : w1.heap[w.heap.size]? = some (.cells #[.int .i64 0, .int .i64 0, .slice none 0 0] 233 (0, 0)) := blk_go (by (repeat' (with_reducible (first | (refine heap_new ?_; (first | (simp; done) | rfl); done) | refine heap_dn ?_ | refine heap_d ?_ | refine heap_old ?_)))) hf1
    have hb1 : w1.heap[w.heap.size + 1]? = some (.cells #[.int .i64 B, .int .i64 K, .slice none 0 0] 233 (0, 0)) := blk_go (by (repeat' (with_reducible (first | (refine heap_new ?_; (first | (simp; done) | rfl); done) | refine heap_dn ?_ | refine heap_d ?_ | refine heap_old ?_)))) hf1
    (obtain ⟨u0, u1, u2⟩ := box3_ hz1)
    (obtain ⟨v0, v1, v2⟩ := box3_ hb1)
    have y0 := blk_free (i := 0) hz1
    have y1 := blk_free (i := 1) hz1
    have y2 := blk_free (i := 2) hz1
    have hzl := (Array.getElem?_eq_some_iff.1 hz1).1
    have HF : Hid (Fr w w1) := Fr.trans (by (repeat' (first | exact Below.refl _ _ | refine below_drewN ?_ _ | refine Below.drew ?_ | refine frA ?_ _))) hf1
    clear hf1 hz1 hb1
    go_wp2_with fail
    refine bodyPost_ret (v := .tuple #[.agg #[.int .i64 B, .int .i64 K, .slice none 0 0], .int .i64 0]) ?_ rfl ⟨rfl, bel3_ HF.out (Nat.le_refl _)⟩
    simp [results, Tryz.results162, go_sem, u0, u1, u2, hzl]
  · have E : Hid (sysNew B K = (Sy.none, ck)) := by unfold sysNew Hid; rw [← hck, if_pos h0]
    rw [E.out]
    have e1 : (ck != 0) = true := by simp [h0]
    clear hck h0
    go_enter Tryz.func162, Tryz.ntmps162
    go_wp2_with fail
    (with_reducible refine (sysCheck_any _ B K wB wK none 0 0 [] Sl.nil hm).mono ?_)
    rw [← CK.out]
    rintro e w1 ⟨rfl, hf1⟩
    have hz1 : w1.heap[w.heap.size]? = some (.cells #[.int .i64 0, .int .i64 0, .slice none 0 0] 233 (0, 0)) := blk_go (by (repeat' (with_reducible (first | (refine heap_new ?_; (first | (simp; done) | rfl); done) | refine heap_dn ?_ | refine heap_d ?_ | refine heap_old ?_)))) hf1
    (obtain ⟨u0, u1, u2⟩ := box3_ hz1)
    have y0 := blk_free (i := 0) hz1
    have y1 := blk_free (i := 1) hz1
    have y2 := blk_free (i := 2) hz1
    have hzl := (Array.getElem?_eq_some_iff.1 hz1).1
    have HF : Hid (Fr w w1) := Fr.trans (by (repeat' (first | exact Below.refl _ _ | refine below_drewN ?_ _ | refine Below.drew ?_ | refine frA ?_ _))) hf1
    clear hf1 hz1
    go_wp2_with fail
    refine bodyPost_ret (v := .tuple #[.agg #[.int .i64 0, .int .i64 0, .slice none 0 0], .int .i64 ck]) ?_ rfl ⟨rfl, bel3_ HF.out (Nat.le_refl _)⟩
    simp [results, Tryz.results162, go_sem, u0, u1, u2, hzl]

set_option maxRecDepth 100000 in
set_option maxHeartbeats 2000000 in
theorem solAdd_any (w : World) (B K : Int) (wB : wfI B) (wK : wfI K) (A : Option Addr) (n c : Nat) (rows : List Rw) (h : Sl 2 eRw w (LT w.heap.size) A n rows) (hm : n ≤ maxLen) (r : Rw) (A1 A2 : Option Addr) (n1 c1 n2 c2 : Nat)
    (ha : Sl 1 eBool w (LT w.heap.size) A1 n1 r.has) (hd : Sl 1 eByte w (LT w.heap.size) A2 n2 r.data) :
    Calls Tryz.prog 164 #[.agg #[.int .i64 B, .int .i64 K, .slice A n c], .agg #[.slice A1 n1 c1, .slice A2 n2 c2]] w (AddPost w (sysAdd ⟨B, K, rows⟩ r)) := by
  by_cases h0 : sysCheck B K rows = 0
  · obtain ⟨⟨b1, b2⟩, ⟨k1, k2⟩, _, hR⟩ := sysCheck_ok h0
    by_cases h1 : (n1 : Int) = B ∧ (n2 : Int) = K
    · obtain ⟨rfl, rfl⟩ := h1
      exact solAdd_ok w n1 n2 A n c rows h (by omega) (by omega) (rowsOk_sys hR) r A1 A2 c1 c2 ha hd
    · have E : Hid (sysAdd ⟨B, K, rows⟩ r = (Sy.none, false, 4)) := by
        unfold sysAdd Hid
        rw [if_neg (by simp [h0]), if_pos (by rw [ha.1, hd.1]; simp only [ne_eq]; omega)]
      have h0' := Lib.hid h0
      have hm2 : n ≤ maxLen := hm
      have HS := Lib.hid h
      clear ha hd hR h0 h
      by_cases g1 : (n1 : Int) = B
      · have g2 : ¬ (n2 : Int) = K := fun e => h1 ⟨g1, e⟩
        have t1 : ((n1 : Int) != B) = false := by simp [g1]
        have t2 : ((n2 : Int) != K) = true := by simp [g2]
        clear h1 g1 g2
        go_enter Tryz.func164, Tryz.ntmps164
        go_wp2_with fail
        (with_reducible refine (sysCheck_any _ B K wB wK A n c rows (HS.out.go sRw (by (repeat' (first | exact Below.refl _ _ | refine below_drewN ?_ _ | refine Below.drew ?_ | refine frA ?_ _)))) hm2).mono ?_)
        rw [h0'.out]
        rintro e w1 ⟨rfl, hf1⟩
        have hb1 : w1.heap[w.heap.size]? = some (.cells #[.int .i64 B, .int .i64 K, .slice A n c] 233 (0, 0)) := blk_go (by (repeat' (with_reducible (first | (refine heap_new ?_; (first | (simp; done) | rfl); done) | refine heap_dn ?_ | refine heap_d ?_ | refine heap_old ?_)))) hf1
        have hr1 : w1.heap[w.heap.size + 1]? = some (.cells #[.slice A1 n1 c1, .slice A2 n2 c2] 242 (0, 0)) := blk_go (heap_old (heap_new (by simp))) hf1
        obtain ⟨p4, hp4⟩ : ∃ p4, p4 = w.heap.size + 1 + 1 := ⟨_, rfl⟩
        have hz1 : w1.heap[p4]? = some (.cells #[.int .i64 0, .int .i64 0, .slice none 0 0] 233 (0, 0)) := by rw [hp4]; exact blk_go (heap_new (by simp)) hf1
        have hpw : w.heap.size ≤ p4 := by omega
        rw [← hp4]
        (obtain ⟨u0, u1, u2⟩ := box3_ hb1)
        (obtain ⟨v0, v1⟩ := box2_ hr1)
        (obtain ⟨x0, x1, x2⟩ := box3_ hz1)
        have y0 := blk_free (i := 0) hz1
        have y1 := blk_free (i := 1) hz1
        have y2 := blk_free (i := 2) hz1
        have hzl := (Array.getElem?_eq_some_iff.1 hz1).1
        have HF : Hid (Fr w w1) := Fr.trans (by (repeat' (first | exact Below.refl _ _ | refine below_drewN ?_ _ | refine Below.drew ?_ | refine frA ?_ _))) hf1
        clear hf1 hz1 hb1 hr1 hp4
        go_wp2_with fail
        refine bodyPost_ret (v := .tuple #[.agg #[.int .i64 0, .int .i64 0, .slice none 0 0], .bool false, .int .i64 4]) ?_ rfl ?_
        · simp [results, Tryz.results164, go_sem, x0, x1, x2, hzl]
        · rw [E.out]
          exact ⟨none, 0, 0, rfl, ⟨by omega, by omega, by unfold maxLen; omega⟩, Sl.nil, bel3_ HF.out hpw⟩
      · have t1 : ((n1 : Int) != B) = true := by simp [g1]
        clear h1 g1
        go_enter Tryz.func164, Tryz.ntmps164
        go_wp2_with fail
        (with_reducible refine (sysCheck_any _ B K wB wK A n c rows (HS.out.go sRw (by (repeat' (first | exact Below.refl _ _ | refine below_drewN ?_ _ | refine Below.drew ?_ | refine frA ?_ _)))) hm2).mono ?_)
        rw [h0'.out]
        rintro e w1 ⟨rfl, hf1⟩
        have hb1 : w1.heap[w.heap.size]? = some (.cells #[.int .i64 B, .int .i64 K, .slice A n c] 233 (0, 0)) := blk_go (by (repeat' (with_reducible (first | (refine heap_new ?_; (first | (simp; done) | rfl); done) | refine heap_dn ?_ | refine heap_d ?_ | refine heap_old ?_)))) hf1
        have hr1 : w1.heap[w.heap.size + 1]? = some (.cells #[.slice A1 n1 c1, .slice A2 n2 c2] 242 (0, 0)) := blk_go (heap_old (heap_new (by simp))) hf1
        obtain ⟨p4, hp4⟩ : ∃ p4, p4 = w.heap.size + 1 + 1 := ⟨_, rfl⟩
        have hz1 : w1.heap[p4]? = some (.cells #[.int .i64 0, .int .i64 0, .slice none 0 0] 233 (0, 0)) := by rw [hp4]; exact blk_go (heap_new (by simp)) hf1
        have hpw : w.heap.size ≤ p4 := by omega
        rw [← hp4]
        (obtain ⟨u0, u1, u2⟩ := box3_ hb1)
        (obtain ⟨v0, v1⟩ := box2_ hr1)
        (obtain ⟨x0, x1, x2⟩ := box3_ hz1)
        have y0 := blk_free (i := 0) hz1
        have y1 := blk_free (i := 1) hz1
        have y2 := blk_free (i := 2) hz1
        have hzl := (Array.getElem?_eq_some_iff.1 hz1).1
        have HF : Hid (Fr w w1) := Fr.trans (by (repeat' (first | exact Below.refl _ _ | refine below_drewN ?_ _ | refine Below.drew ?_ | refine frA ?_ _))) hf1
        clear hf1 hz1 hb1 hr1 hp4
        go_wp2_with fail
        refine bodyPost_ret (v := .tuple #[.agg #[.int .i64 0, .int .i64 0, .slice none 0 0], .bool false, .int .i64 4]) ?_ rfl ?_
        · simp [results, Tryz.results164, go_sem, x0, x1, x2, hzl]
        · rw [E.out]
          exact ⟨none, 0, 0, rfl, ⟨by omega, by omega, by unfold maxLen; omega⟩, Sl.nil, bel3_ HF.out hpw⟩
  · obtain ⟨ck, hck⟩ : ∃ ck, ck = sysCheck B K rows := ⟨_, rfl⟩
    have E : Hid (sysAdd ⟨B, K, rows⟩ r = (Sy.none, false, ck)) := by unfold sysAdd Hid; rw [if_pos h0, ← hck]
    rw [← hck] at h0
    have e1 : (ck != 0) = true := by simp [h0]
    have HS := Lib.hid h
    (have Hck := Lib.hid hck; clear hck)
    clear ha hd h0 h
    go_enter Tryz.func164, Tryz.ntmps164
    go_wp2_with fail
    (with_reducible refine (sysCheck_any _ B K wB wK A n c rows (HS.out.go sRw (by (repeat' (first | exact Below.refl _ _ | refine below_drewN ?_ _ | refine Below.drew ?_ | refine frA ?_ _)))) hm).mono ?_)
    rw [← Hck.out]
    rintro e w1 ⟨rfl, hf1⟩
    obtain ⟨p4, hp4⟩ : ∃ p4, p4 = w.heap.size + 1 + 1 := ⟨_, rfl⟩
    have hz1 : w1.heap[p4]? = some (.cells #[.int .i64 0, .int .i64 0, .slice none 0 0] 233 (0, 0)) := by rw [hp4]; exact blk_go (heap_new (by simp)) hf1
    have hpw : w.heap.size ≤ p4 := by omega
    rw [← hp4]
    (obtain ⟨x0, x1, x2⟩ := box3_ hz1)
    have y0 := blk_free (i := 0) hz1
    have y1 := blk_free (i := 1) hz1
    have y2 := blk_free (i := 2) hz1
    have hzl := (Array.getElem?_eq_some_iff.1 hz1).1
    have HF : Hid (Fr w w1) := Fr.trans (by (repeat' (first | exact Below.refl _ _ | refine below_drewN ?_ _ | refine Below.drew ?_ | refine frA ?_ _))) hf1
    clear hf1 hz1 hp4
    go_wp2_with fail
    refine bodyPost_ret (v := .tuple #[.agg #[.int .i64 0, .int .i64 0, .slice none 0 0], .bool false, .int .i64 ck]) ?_ rfl ?_
    · simp [results, Tryz.results164, go_sem, x0, x1, x2, hzl]
    · rw [E.out]
      exact ⟨none, 0, 0, rfl, ⟨by omega, by omega, by unfold maxLen; omega⟩, Sl.nil, bel3_ HF.out hpw⟩
end Go.Proofs.YtmiaplgfbphfmaaGreatDoor
namespace Go.Proofs.YtmiaplgfbphfmaaGreatDoor
open Go.RowKit
attribute [local irreducible] wpList

/-- Bytes that are nil where there are none. -/
def eNB : ERd (List UInt8) := fun w S f xs => ∃ A n c, f 0 = some (.slice A n c) ∧ (n * 1 ≤ lim ∧ n ≤ c ∧ c ≤ maxLen) ∧ Sl 1 eByte w S A n xs ∧ (n = 0 → A = none)
theorem sNB : Stable 1 eNB := ⟨fun hk ⟨A, n, c, h0, h1, h2, h3⟩ => ⟨A, n, c, h0, h1, h2.keep sByte hk, h3⟩, fun hB ⟨A, n, c, h0, h1, h2, h3⟩ => ⟨A, n, c, h0, h1, h2.more sByte hB, h3⟩, fun hf ⟨A, n, c, h0, h1, h2⟩ => ⟨A, n, c, hf _ _ (by omega) h0, h1, h2⟩⟩
theorem fNB : Full 1 eNB := fun h j hj => by
  obtain rfl : j = 0 := by omega
  obtain ⟨A, n, c, h0, _⟩ := h
  exact ⟨_, h0, rfl⟩
theorem eNB.block {w : World} {S : Nat → Prop} {f : Nat → Option Value} {x : List UInt8} (h : eNB w S f x) : eBlock w S f x := by
  obtain ⟨A, n, c, h0, h1, h2, _⟩ := h
  exact ⟨A, n, c, h0, h1, h2⟩
theorem Sl.nb {w : World} {S : Nat → Prop} {A : Option Addr} {n : Nat} {xs : List (List UInt8)} (h : Sl 1 eNB w S A n xs) : Sl 1 eBlock w S A n xs := ⟨h.1, fun hn => by
  obtain ⟨ad, e, hS, hr⟩ := h.2 hn
  exact ⟨ad, e, hS, fun i x hx => (hr i x hx).block⟩⟩

/-- Has a row one block alone, its first? -/
def Rw.unit (r : Rw) : Bool := !decide (true ∈ r.has.drop (r.fst.toNat + 1))
def knownStep (out : List (List UInt8)) (r : Rw) : List (List UInt8) := if r.unit then out.set r.fst.toNat r.data else out
def knownF (B : Nat) (rows : List Rw) : List (List UInt8) := rows.foldl knownStep (List.replicate B [])
theorem length_knownStep (out : List (List UInt8)) (r : Rw) : (knownStep out r).length = out.length := by unfold knownStep; split <;> simp
theorem length_foldKnown : ∀ (rows : List Rw) (out : List (List UInt8)), (rows.foldl knownStep out).length = out.length
  | [], _ => rfl
  | r :: rows, out => by rw [List.foldl_cons, length_foldKnown rows, length_knownStep]

theorem infoNB : (Tryz.prog.info? 36).map (fun i => (i.zero, i.size, i.bytes)) = some (some (Value.slice none 0 0), 1, 24) := by kernel_rfl
theorem own_madeNB {w : World} {base g n : Nat} (hb : base ≤ g) (h : w.heap[g]? = some (.cells (ca id (List.replicate n (Value.slice none 0 0))) 36 (0, 0))) (hm : n ≤ maxLen) :
    Own 1 eNB w base 36 (.slice (some ⟨g, 0, none⟩) n n) (List.replicate n ([] : List UInt8)) := by
  refine ⟨List.replicate n (Value.slice none 0 0), ⟨by simp, .inr ⟨g, n, _, by simp, hb, h, by simp, hm, by simp [ca], by simp [ca]⟩⟩, fun i x hx => ?_⟩
  have hi : i < n := by have := (List.getElem?_eq_some_iff.1 hx).1; simpa using this
  obtain rfl : [] = x := by simpa [List.getElem?_replicate, hi] using hx
  exact ⟨none, 0, 0, by simp [List.getElem?_replicate, hi], ⟨by omega, by omega, by unfold maxLen; omega⟩, Sl.nil, fun _ => rfl⟩

theorem add_succ_addr (a : Addr) (k : Nat) : a.add (k + 1) = ⟨a.block, a.off + (k + 1), none⟩ := by unfold Addr.add; simp
theorem own_lt {α : Type} {size : Nat} {r : ERd α} {w : World} {base g n c : Nat} {e : TypeId} {xs : List α} (h : Own size r w base e (.slice (some ⟨g, 0, none⟩) n c) xs) : g < w.heap.size := by
  obtain ⟨cs, ho, _⟩ := h
  exact (ho.lt g rfl).2
set_option maxRecDepth 100000 in
set_option maxHeartbeats 2000000 in
theorem solKnown_ok (w : World) (B K : Nat) (A : Option Addr) (n c : Nat) (rows : List Rw) (h : Sl 2 eRw w (LT w.heap.size) A n rows) (hB : 1 ≤ B ∧ B ≤ 24) (hK : 1 ≤ K ∧ K ≤ 16) (hs : Sys B K rows) :
    Calls Tryz.prog 165 #[.agg #[.int .i64 B, .int .i64 K, .slice A n c]] w fun e w' => ∃ g, e = .returned (.tuple #[.slice (some ⟨g, 0, none⟩) B B, .int .i64 0]) ∧ Own 1 eNB w' w.heap.size 36 (.slice (some ⟨g, 0, none⟩) B B) (knownF B rows) ∧ Fr w w' := by
  have hlen := h.1
  have hn24 : n ≤ 24 := by have := hs.card; omega
  have hck : Hid (sysCheck B K rows = 0) := sysCheck_of hB hK hs
  obtain ⟨B1, B2⟩ := hB
  obtain ⟨K1, K2⟩ := hK
  have hmk := run_make_ca (P := Tryz.prog) (id : Value → Value) (.slice none 0 0) 243 36 24 Tryz.underlying243 infoNB rfl .i64 .i64 B (by omega) (by omega)
  have hBm : B ≤ maxLen := by unfold maxLen; omega
  (have H := Lib.hid h; clear h; have Hs := Lib.hid hs; clear hs; have Hlen := Lib.hid hlen; clear hlen)
  go_enter Tryz.func165, Tryz.ntmps165
  go_wp2_with fail
  (with_reducible refine (sysCheck_any _ B K (wfI.mk (by omega)) (wfI.mk (by omega)) A n c rows (H.out.go sRw (by (repeat' (first | exact Below.refl _ _ | refine below_drewN ?_ _ | refine Below.drew ?_ | refine frA ?_ _)))) (by unfold maxLen; omega)).mono ?_)
  rw [hck.out]
  rintro e w1 ⟨rfl, hf1⟩
  have hb1 : w1.heap[w.heap.size]? = some (.cells #[.int .i64 B, .int .i64 K, .slice A n c] 233 (0, 0)) := blk_go (by (repeat' (with_reducible (first | (refine heap_new ?_; (first | (simp; done) | rfl); done) | refine heap_dn ?_ | refine heap_d ?_ | refine heap_old ?_)))) hf1
  have HF1 : Hid (Fr w w1) := Fr.trans (by (repeat' (first | exact Below.refl _ _ | refine below_drewN ?_ _ | refine Below.drew ?_ | refine frA ?_ _))) hf1
  (obtain ⟨u0, u1, u2⟩ := box3_ hb1)
  have hbl := (Array.getElem?_eq_some_iff.1 hb1).1
  clear hf1 hb1
  go_wp2_with fail
  obtain ⟨g, hg⟩ : ∃ g, g = w1.heap.size := ⟨_, rfl⟩
  obtain ⟨W2, hW2⟩ : ∃ W2, W2 = w1.alloc (.cells (ca id (List.replicate B (.slice none 0 0))) 36) := ⟨_, rfl⟩
  have HF2 : Hid (Fr w W2) := by rw [hW2]; exact HF1.out.trans (frAlloc _ _)
  have HO2 : Hid (Own 1 eNB W2 (w.heap.size + 1) 36 (.slice (some ⟨g, 0, none⟩) B B) (List.replicate B [])) := by
    rw [hW2]; exact own_madeNB (by omega) (heap_new hg) hBm
  have hz2 : W2.heap.size = g + 1 := by rw [hW2, hg]; simp
  have hgl : g < W2.heap.size := by omega
  have hwg : w.heap.size < g := by omega
  have HZ2 := Lib.hid hz2
  rw [← hW2, ← hg]
  clear hW2 hg hz2 hmk u0 u1 u2
  go_loopw [20] (fun s20 wr => ∃ j : Nat, j ≤ n ∧ s20 = .int .i64 j ∧ Hid (Own 1 eNB wr (w.heap.size + 1) 36 (.slice (some ⟨g, 0, none⟩) B B) ((rows.take j).foldl knownStep (List.replicate B []))) ∧ Hid (Chg (fun b => b = g) W2 wr)) (fun i _ => n - (intOf i).toNat)
  case atStart => exact ⟨0, Nat.zero_le _, rfl, HO2, Chg.refl _ _⟩
  case round =>
    obtain ⟨j, hj, rfl, HO, HC⟩ := hrel
    by_cases hlt : j < n
    · have HWr : Hid (Fr w wr) := HC.out.fr HF2.out fun b hb => by rw [hb]; omega
      obtain ⟨ad, rfl, hE⟩ := (H.out.go sRw HWr.out).els (by omega)
      obtain ⟨o, ho, hr⟩ := hE.row hlt
      have hpb := hE.2.1
      obtain ⟨A1, n1, c1, A2, n2, c2, ⟨m0, m1⟩, ⟨⟨e1, e2, e3⟩, ha⟩, ⟨⟨e4, e5, e6⟩, hd⟩⟩ := eRw_at hr
      have hom := List.mem_of_getElem? ho
      have hfo := Hs.out.fit o hom
      obtain rfl : n1 = B := ha.1.symm.trans hfo.1
      obtain rfl : n2 = K := hd.1.symm.trans hfo.2
      obtain ⟨kf, hkf, _, hkB⟩ := Hs.out.leads hom
      have HKF : Hid (idxF true o.has = (kf : Int)) := hkf
      have hgw := own_lt HO.out
      have hun : o.unit = !decide (true ∈ o.has.drop (kf + 1)) := by unfold Rw.unit; rw [hkf, Int.toNat_natCast]
      obtain ⟨un, hue⟩ : ∃ un, un = decide (true ∈ o.has.drop (kf + 1)) := ⟨_, rfl⟩
      rw [← hue] at hun
      have hst : Hid ((rows.take (j + 1)).foldl knownStep (List.replicate n1 []) = if un then (rows.take j).foldl knownStep (List.replicate n1 []) else ((rows.take j).foldl knownStep (List.replicate n1 [])).set kf o.data) := by
        rw [Hid, take_snoc' ho, List.foldl_append, List.foldl_cons, List.foldl_nil]
        unfold knownStep
        rw [hun, hkf, Int.toNat_natCast]
        cases un <;> rfl
      clear hkf hun hr hE hom
      obtain ⟨X, hXe⟩ : ∃ X, X = (rows.take j).foldl knownStep (List.replicate n1 ([] : List UInt8)) := ⟨_, rfl⟩
      have hXl : X.length = n1 := by rw [hXe, length_foldKnown]; simp
      rw [← hXe] at hst HO
      obtain ⟨q, hq⟩ : ∃ q, q = wr.heap.size := ⟨_, rfl⟩
      obtain ⟨W5, hW5⟩ : ∃ W5, W5 = wr.alloc (.cells #[.slice A1 n1 c1, .slice A2 n2 c2] 242) := ⟨_, rfl⟩
      have hF5 : Fr wr W5 := by rw [hW5]; exact frAlloc _ _
      have HQ5 : Hid (W5.heap[q]? = some (.cells #[.slice A1 n1 c1, .slice A2 n2 c2] 242 (0, 0))) := by rw [hW5]; exact heap_new hq
      have hA := Lib.hid (ha.go sBool hF5)
      have hD := Lib.hid (hd.go sByte hF5)
      have HUE := Lib.hid hue
      have HF5 := Lib.hid hF5
      have HW5 := Lib.hid hW5
      have hkn : kf + 1 ≤ n1 := by omega
      have hc1 : n1 ≤ c1 := e2
      have hK1 : 0 < n2 := K1
      have i1 : (0 : Int) ≤ (kf : Int) + 1 := by omega
      have i2 : (kf : Int) + 1 ≤ (n1 : Int) := by omega
      have hqw : g < q := by omega
      (have E4 := Lib.hid e4; clear e4; have Hfo := Lib.hid hfo; clear hfo; have HXe := Lib.hid hXe; clear hXe; have HXl := Lib.hid hXl; clear hXl)
      clear ho ha hd e1 e3 e5 e6 hue hF5 hW5
      go_wp2_with fail
      rw [← HW5.out, ← hq]
      clear m0 m1 hq HW5
      (with_reducible refine (first_at _ _ _ _ _ _ _ o.has kf hA.out hBm HKF.out).mono ?_)
      rintro e w6 ⟨rfl, hf6⟩
      have HQ6 := Lib.hid (blk_go HQ5.out hf6)
      have hb6 := HQ6.out
      (obtain ⟨v0, v1⟩ := box2_ hb6)
      have HF6 : Hid (Fr wr w6) := HF5.out.trans hf6
      have hA6 := Lib.hid (hA.out.go sBool hf6)
      have HA6 := Lib.hid ((hA.out.go sBool hf6).cut (k := kf + 1) (cap := c1) hkn hc1)
      have HD6 := Lib.hid (hD.out.go sByte hf6)
      clear hf6 hb6 HQ5 HF5 hA hD
      obtain ⟨Ac, hAc⟩ : ∃ Ac, Ac = (if c1 = kf + 1 then A1 else A1.map (·.add ((kf + 1) * 1))) := ⟨_, rfl⟩
      rw [← hAc] at HA6
      obtain ⟨nd, hnd⟩ : ∃ nd, nd = n1 - (kf + 1) := ⟨_, rfl⟩
      have hndm : nd ≤ maxLen := by unfold maxLen at hBm ⊢; omega
      have i3 : ((kf : Int) + 1).toNat = kf + 1 := by omega
      go_upto_region 9 with fail
      go_cut [32] (fun s32 wx => s32 = .bool (!un) ∧ w6 = wx)
      case first =>
        by_cases hcap : c1 = kf + 1
        · rw [if_pos hcap] at hAc
          have HA7 := HA6
          rw [hAc] at HA7
          have HCT := Lib.hid (fun cc => containsBool_any w6 _ A1 (n1 - (kf + 1)) cc _ HA7.out (by unfold maxLen at hBm ⊢; omega))
          rw [← HUE.out] at HCT
          have qw : IntKind.i64.wrap ((kf : Int) + 1) = (kf : Int) + 1 := by rw [IntKind.wrap_i64]; omega
          clear hAc hnd
          go_wp2_with fail
          (with_reducible refine (HCT.out _).mono ?_)
          rintro e w7 ⟨rfl, rfl⟩
          go_wp2_with fail
          go_meet
          exact ⟨rfl, rfl⟩
        · rw [if_neg hcap] at hAc
          obtain ⟨adb, rfl, hEb⟩ := hA6.out.els (by omega)
          simp only [Option.map_some, Nat.mul_one] at hAc
          have HA7 := HA6
          rw [hAc, add_succ_addr] at HA7
          have HCT := Lib.hid (fun cc => containsBool_any w6 _ (some ⟨adb.block, adb.off + (kf + 1), none⟩) (n1 - (kf + 1)) cc _ HA7.out (by unfold maxLen at hBm ⊢; omega))
          rw [← HUE.out] at HCT
          have qw : IntKind.i64.wrap ((kf : Int) + 1) = (kf : Int) + 1 := by rw [IntKind.wrap_i64]; omega
          clear hAc hnd hEb
          go_wp2_with fail
          (with_reducible refine (HCT.out _).mono ?_)
          rintro e w7 ⟨rfl, rfl⟩
          go_wp2_with fail
          go_meet
          exact ⟨rfl, rfl⟩
      case rest =>
        obtain ⟨rfl, rfl⟩ := hcut
        clear HA6 hA6 hAc hnd hndm i3
        have hXk : Hid ((rows.take (j + 1)).foldl knownStep (List.replicate n1 []) = if un then X else X.set kf o.data) := hst
        cases un with
        | true =>
          go_wp2_with fail
          have HO6 := Lib.hid (HO.out.fr sNB HF6.out)
          have HC6 : Hid (Chg (fun b => b = g) W2 w6) := HC.out.trans HF6.out.chg
          go_roundw
          case rel => exact ⟨j + 1, by omega, by go_num, by rw [hst.out, if_pos rfl]; exact HO6, HC6⟩
          case measure => simp [intOf]; omega
        | false =>
          have HO6 := Lib.hid (HO.out.fr sNB HF6.out)
          have HC6 : Hid (Chg (fun b => b = g) W2 w6) := HC.out.trans HF6.out.chg
          have hgl6 := own_lt HO6.out
          go_wp2_with fail
          (with_reducible refine (cloneBlock_blk _ _ _ _ o.data HD6.out E4.out hK1).mono ?_)
          rintro e w7 ⟨d, cd, rfl, hdd, hk, hcd, hf7⟩
          have HO7 := HO6.out.fr sNB hf7
          have hgl7 := own_lt HO7
          obtain ⟨g', cap', cs, rest, e1, hbg, hgh, _, _, hl, _, h1, _⟩ := own_row fNB (by decide) HO7 (by rw [HXl.out]; exact B1)
          injection e1 with e1 e2 e3
          injection e1 with e1
          injection e1 with e1
          subst e1 e3
          have hcl : cs.length = n1 := by rw [hl, HXl.out, Nat.mul_one]
          obtain ⟨cv, hcv⟩ : ∃ cv, cs[kf]? = some cv := ⟨_, List.getElem?_eq_getElem (by omega)⟩
          have m2 : w7.cell? ⟨g, kf, none⟩ = some cv := cells_at hgh hcv
          have m3 : w7.frozen? ⟨g, kf, none⟩ = false := blk_free hgh
          have hone := h1 cv (List.mem_of_getElem? hcv)
          have HO8 : Hid (Own 1 eNB (w7.setCell ⟨g, kf, none⟩ (.slice (some ⟨d, 0, none⟩) n2 cd)) (w.heap.size + 1) 36 (.slice (some ⟨g, 0, none⟩) n1 n1) (X.set kf o.data)) := by
            have := own_set (i := kf) (j := 0) (u := .slice (some ⟨d, 0, none⟩) n2 cd) (x := o.data) sNB fNB (by decide) HO7 hkB (by decide) rfl fun f hf => by
              refine ⟨some ⟨d, 0, none⟩, n2, cd, by simp, ⟨by unfold lim; omega, hcd⟩, ?_, fun e => by omega⟩
              rw [← Hfo.out.2]
              exact hk.bytes ⟨hk.lt, by omega⟩
            unfold Hid; simpa using this
          have HC8 : Hid (Chg (fun b => b = g) W2 (w7.setCell ⟨g, kf, none⟩ (.slice (some ⟨d, 0, none⟩) n2 cd))) := Chg.set (S := fun b => b = g) (p := ⟨g, kf, none⟩) (HC6.out.trans hf7.chg) rfl _
          have q2 : w7.cell? ⟨q, 1, none⟩ = some (.slice A2 n2 c2) := cell_of_heap (blk_go HQ6.out hf7)
          clear HO7 hgh hl h1 hcv hk hf7 HO6 HC6 hbg hcl e2
          go_wp2_with fail
          go_roundw
          case rel => exact ⟨j + 1, by omega, by go_num, by rw [hst.out, if_neg (by simp)]; exact HO8, HC8⟩
          case measure => simp [intOf]; omega
    · obtain rfl : j = n := by omega
      rw [List.take_of_length_le (by rw [Hlen.out]; exact Nat.le_refl _)] at HO
      have HWr : Hid (Fr w wr) := HC.out.fr HF2.out fun b hb => by rw [hb]; omega
      go_wp2_with fail
      go_ret2
      exact ⟨g, rfl, HO.out.lower (by omega), HWr.out⟩

end Go.Proofs.YtmiaplgfbphfmaaGreatDoor
