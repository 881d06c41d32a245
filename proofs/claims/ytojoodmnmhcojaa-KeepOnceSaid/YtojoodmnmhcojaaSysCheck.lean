/- Contract of solve.Check. No condition. -/
import Derived.Test.YtojoodmnmhcojaaRow
import Derived.Test.YtojoodmnmhcojaaBox
set_option linter.unusedSimpArgs false
set_option linter.unusedVariables false
namespace Go.Proofs.Ytojoodmnmhcojaa
open Go.RowKit
attribute [local irreducible] wpList

set_option maxRecDepth 100000 in
set_option maxHeartbeats 1000000 in
theorem sysCheck_any (w : World) (B K : Int) (wB : wfI B) (wK : wfI K) (A : Option Addr) (n c : Nat) (rows : List Rw) (h : Sl 2 eRw w (LT w.heap.size) A n rows) (hm : n ≤ maxLen) :
    Calls Try.prog 64 #[.agg #[.int .i64 B, .int .i64 K, .slice A n c]] w fun e w' => e = .returned (.int .i64 (sysCheck B K rows)) ∧ Fr w w' := by
  unfold maxLen at hm
  have hlen := h.1
  by_cases h1 : B < 1 ∨ 24 < B ∨ K < 1 ∨ 16 < K
  · have E : Hid (sysCheck B K rows = 3) := if_pos h1
    clear h hlen
    by_cases g1 : B < 1
    · go_enter Try.func64, Try.ntmps64
      go_wp2_with fail
      go_ret
      exact ⟨retI E.out.symm, frAlloc _ _⟩
    · by_cases g2 : 24 < B
      · go_enter Try.func64, Try.ntmps64
        go_wp2_with fail
        go_ret
        exact ⟨retI E.out.symm, frAlloc _ _⟩
      · by_cases g3 : K < 1
        · go_enter Try.func64, Try.ntmps64
          go_wp2_with fail
          go_ret
          exact ⟨retI E.out.symm, frAlloc _ _⟩
        · have g4 : 16 < K := by omega
          go_enter Try.func64, Try.ntmps64
          go_wp2_with fail
          go_ret
          exact ⟨retI E.out.symm, frAlloc _ _⟩
  · have HH1 := Lib.hid h1
    have hb : (1 ≤ B ∧ B ≤ 24) ∧ 1 ≤ K ∧ K ≤ 16 := by omega
    obtain ⟨⟨b1, b2⟩, b3, b4⟩ := hb
    have hg1 : ¬ B < 1 := by omega
    have hg2 : ¬ 24 < B := by omega
    have hg3 : ¬ K < 1 := by omega
    have hg4 : ¬ 16 < K := by omega
    clear h1
    by_cases h2 : B < (n : Int)
    · have E : Hid (sysCheck B K rows = 2) := by unfold sysCheck Hid; rw [if_neg HH1.out, if_pos (by rw [hlen]; exact h2)]
      clear h hlen
      go_enter Try.func64, Try.ntmps64
      go_wp2_with fail
      go_ret
      exact ⟨retI E.out.symm, frAlloc _ _⟩
    · have HH2 : Hid ((rows.length : Int) ≤ B) := by rw [Hid, hlen]; omega
      obtain ⟨W1, hW1⟩ : ∃ W1, W1 = w.alloc (.cells #[.int .i64 B, .int .i64 K, .slice A n c] 97) := ⟨_, rfl⟩
      have HB : Hid (W1.heap[w.heap.size]? = some (.cells #[.int .i64 B, .int .i64 K, .slice A n c] 97 (0, 0))) := by rw [hW1]; exact heap_new rfl
      have HF1 : Hid (Fr w W1) := by rw [hW1]; exact frAlloc _ _
      have H := Lib.hid (h.go sRw HF1.out)
      have HW1 := Lib.hid hW1
      (have Hlen := Lib.hid hlen; clear hlen)
      clear h hW1
      go_enter Try.func64, Try.ntmps64
      go_wp2_with fail
      rw [← HW1.out]
      clear HW1
      go_loopw [3, 36] (fun s3 s36 wr => ∃ i : Nat, i ≤ n ∧ s36 = .int .i64 i ∧ s3 = .int .i64 (lastOf rows i) ∧ Hid (∀ (i' : Nat) (r : Rw), i' < i → rows[i']? = some r → RowOk B K rows i' r) ∧ Hid (Fr W1 wr)) (fun _ i _ => n - (intOf i).toNat)
      case atStart => exact ⟨0, Nat.zero_le _, rfl, rfl, fun i' r hi _ => by omega, Below.refl _ _⟩
      case round =>
        obtain ⟨i, hi, rfl, rfl, HR, HF⟩ := hrel
        have hbx := blk_go HB.out HF.out
        have hbl : w.heap.size < wr.heap.size := (Array.getElem?_eq_some_iff.1 hbx).1
        (obtain ⟨hc0, hc1, hc2⟩ := box3_ hbx)
        have HBX := Lib.hid hbx
        clear hbx
        by_cases hlt : i < n
        · obtain ⟨ad, rfl, hE⟩ := (H.out.go sRw HF.out).els (by omega)
          obtain ⟨x, hx, hr⟩ := hE.row hlt
          obtain ⟨A1, n1, c1, A2, n2, c2, ⟨m0, m1⟩, ⟨⟨k1, k2, k3⟩, ha⟩, ⟨⟨k4, k5, k6⟩, hd⟩⟩ := eRw_at hr
          have hnl : n1 ≤ maxLen := by omega
          unfold lim at k1 k4
          have hal := ha.1
          have hdl := hd.1
          have HA := Lib.hid (ha.go sBool (frAlloc wr (.cells #[.slice A1 n1 c1, .slice A2 n2 c2] 106)))
          clear hE hr ha hd
          by_cases hl1 : (n1 : Int) = B
          · by_cases hl2 : (n2 : Int) = K
            · have t1 : ((n1 : Int) != B) = false := by simp [hl1]
              have t2 : ((n2 : Int) != K) = false := by simp [hl2]
              have HL1 := Lib.hid hl1
              have HL2 := Lib.hid hl2
              have HX := Lib.hid hx
              (have Hal := Lib.hid hal; clear hal; have Hdl := Lib.hid hdl; clear hdl)
              clear hl1 hl2 hx
              go_wp2_with fail
              (with_reducible refine (first_any _ A1 A2 n1 c1 n2 c2 x.has HA.out hnl).mono ?_)
              rintro e w2 ⟨rfl, hf2⟩
              have HF2 : Hid (Fr W1 w2) := (HF.out.trans (frAlloc _ _)).trans hf2
              clear hf2
              have hbd := idxF_bd true x.has
              rw [Hal.out] at hbd
              obtain ⟨kf, hkf⟩ : ∃ kf, kf = idxF true x.has := ⟨_, rfl⟩
              rw [← hkf] at hbd ⊢
              have hlg := lastOf_ge rows i
              obtain ⟨la, hla⟩ : ∃ la, la = lastOf rows i := ⟨_, rfl⟩
              rw [← hla] at hlg ⊢
              have HKF : Hid (kf = x.fst) := hkf
              (have Hla := Lib.hid hla; clear hla)
              clear hkf
              by_cases hle : kf ≤ la
              · have E : Hid (sysCheck B K rows = 4) := sysCheck_bad HH1.out (Int.not_lt.2 HH2.out) HX.out fun e => by have := e.up; rw [← HKF.out, ← Hla.out] at this; omega
                go_wp2_with fail
                go_ret
                exact ⟨retI E.out.symm, HF1.out.trans HF2.out⟩
              · obtain ⟨k, rfl⟩ : ∃ k : Nat, kf = (k : Int) := ⟨kf.toNat, by omega⟩
                have hle1 : decide ((k : Int) ≤ la) = false := by simp; omega
                have hk63 : (k : Int) < 140737488355328 := by omega
                have HLE : Hid (la < (k : Int)) := by rw [Hid]; omega
                have HBX2 := Lib.hid (blk_go HB.out HF2.out)
                have hbl2 : w.heap.size < w2.heap.size := (Array.getElem?_eq_some_iff.1 HBX2.out).1
                have hbx2 := HBX2.out
                (obtain ⟨hd0, hd1, hd2⟩ := box3_ hbx2)
                clear hbx2 hle hbd
                go_wp2_with fail
                go_loopw [64] (fun s64 wr => ∃ j : Nat, j ≤ n ∧ s64 = .int .i64 j ∧ Hid (∀ (j' : Nat) (o : Rw), j' < j → j' ≠ i → rows[j']? = some o → o.has.getD k false = false) ∧ Hid (Fr W1 wr)) (fun j _ => n - (intOf j).toNat)
                case atStart => exact ⟨0, Nat.zero_le _, rfl, fun j' o hj _ _ => by omega, HF2⟩
                case round =>
                  obtain ⟨j, hj, rfl, HJ, HF3⟩ := hrel
                  by_cases hltj : j < n
                  · have hzb := (Array.getElem?_eq_some_iff.1 (blk_go HB.out HF3.out)).1
                    obtain ⟨ad', e', hE'⟩ := (H.out.go sRw HF3.out).els (by omega)
                    injection e' with e'
                    subst e'
                    obtain ⟨o, ho, hr'⟩ := hE'.row hltj
                    obtain ⟨A3, n3, c3, A4, n4, c4, ⟨p0, p1⟩, ⟨⟨k1', k2', k3'⟩, ha'⟩, _⟩ := eRw_at hr'
                    unfold lim at k1'
                    have hal' := ha'.1
                    by_cases hji : j = i
                    · have t3 : ((j : Int) != (i : Int)) = false := by simp [hji]
                      have HJ' : Hid (∀ (j' : Nat) (o : Rw), j' < j + 1 → j' ≠ i → rows[j']? = some o → o.has.getD k false = false) := fun j' o h1 h2 h3 => HJ.out j' o (by omega) h2 h3
                      clear hE' ho hr' ha' hal' hji
                      go_wp2_with fail
                      go_roundw
                      case rel => exact ⟨j + 1, by omega, by go_num, HJ', by (repeat' (first | exact Below.refl _ _ | refine below_drewN ?_ _ | refine Below.drew ?_ | refine frA ?_ _ | refine Fr.trans ?_ HF3.out))⟩
                      case measure => simp [intOf]; omega
                    · have t3 : ((j : Int) != (i : Int)) = true := by simp; omega
                      by_cases hkl : k < n3
                      · obtain ⟨ab, rfl, hEb⟩ := ha'.els (by omega)
                        obtain ⟨b, hbk, hcb⟩ := hEb.bool hkl
                        have hbd2 : ab.block < wr.heap.size := hEb.2.1
                        have hcb2 : (wr.alloc (.cells #[.slice (some ab) n3 c3, .slice A4 n4 c4] 106)).cell? (ab.add k) = some (.bool b) := ((frAlloc wr _).cell (by rw [block_of_add]; exact hbd2)).trans hcb
                        have hbg : o.has.getD k false = b := by rw [List.getD_eq_getElem?_getD, hbk]; rfl
                        cases b with
                        | true =>
                          have E : Hid (sysCheck B K rows = 4) := sysCheck_bad HH1.out (Int.not_lt.2 HH2.out) HX.out fun e => by
                            have := e.alone j o hji ho
                            rw [← HKF.out, Int.toNat_natCast, hbg] at this
                            cases this
                          clear hE' ho hr' ha' hal' hji hEb hbk hbg
                          go_wp2_with fail
                          go_ret
                          exact ⟨retI E.out.symm, by (repeat' (first | exact Below.refl _ _ | refine below_drewN ?_ _ | refine Below.drew ?_ | refine frA ?_ _ | refine Fr.trans ?_ HF3.out | refine Fr.trans ?_ HF1.out))⟩
                        | false =>
                          have HJ' : Hid (∀ (j' : Nat) (o : Rw), j' < j + 1 → j' ≠ i → rows[j']? = some o → o.has.getD k false = false) := fun j' o' h1 h2 h3 => by
                            by_cases e : j' = j
                            · subst e
                              obtain rfl : o = o' := by have := ho.symm.trans h3; injection this
                              exact hbg
                            · exact HJ.out j' o' (by omega) h2 h3
                          clear hE' ho hr' ha' hal' hji hEb hbk hbg
                          go_wp2_with fail
                          go_roundw
                          case rel => exact ⟨j + 1, by omega, by go_num, HJ', by (repeat' (first | exact Below.refl _ _ | refine below_drewN ?_ _ | refine Below.drew ?_ | refine frA ?_ _ | refine Fr.trans ?_ HF3.out))⟩
                          case measure => simp [intOf]; omega
                      · have HJ' : Hid (∀ (j' : Nat) (o : Rw), j' < j + 1 → j' ≠ i → rows[j']? = some o → o.has.getD k false = false) := fun j' o' h1 h2 h3 => by
                          by_cases e : j' = j
                          · subst e
                            obtain rfl : o = o' := by have := ho.symm.trans h3; injection this
                            rw [List.getD_eq_getElem?_getD, List.getElem?_eq_none (by omega)]; rfl
                          · exact HJ.out j' o' (by omega) h2 h3
                        have t4 : decide ((k : Int) < (n3 : Int)) = false := by simp; omega
                        have t5 : decide (k < n3) = false := by simp; omega
                        clear hE' ho hr' ha' hal' hji
                        go_wp2_with fail
                        go_roundw
                        case rel => exact ⟨j + 1, by omega, by go_num, HJ', by (repeat' (first | exact Below.refl _ _ | refine below_drewN ?_ _ | refine Below.drew ?_ | refine frA ?_ _ | refine Fr.trans ?_ HF3.out))⟩
                        case measure => simp [intOf]; omega
                  · obtain rfl : j = n := by omega
                    have HR' : Hid (∀ (i' : Nat) (r : Rw), i' < i + 1 → rows[i']? = some r → RowOk B K rows i' r) := by
                      intro i' r hi' hr'
                      by_cases e : i' = i
                      · subst e
                        obtain rfl : x = r := by have := HX.out.symm.trans hr'; injection this
                        refine ⟨by rw [Hal.out]; exact HL1.out, by rw [Hdl.out]; exact HL2.out, by rw [← HKF.out, ← Hla.out]; exact HLE.out, fun j' o hne ho => ?_⟩
                        rw [← HKF.out, Int.toNat_natCast]
                        exact HJ.out j' o (by have := (List.getElem?_eq_some_iff.1 ho).1; have := Hlen.out; omega) hne ho
                      · exact HR.out i' r (by omega) hr'
                    have HLS : Hid ((k : Int) = lastOf rows (i + 1)) := by rw [Hid, lastOf_succ HX.out]; exact HKF.out
                    go_wp2_with fail
                    go_roundw
                    case rel => exact ⟨i + 1, by omega, by go_num, by rw [HLS.out], HR', HF3⟩
                    case measure => simp [intOf]; omega
            · have E : Hid (sysCheck B K rows = 4) := sysCheck_bad HH1.out (Int.not_lt.2 HH2.out) hx fun e => hl2 (by rw [← hdl]; exact e.data)
              have t1 : ((n1 : Int) != B) = false := by simp [hl1]
              have t2 : ((n2 : Int) != K) = true := by simp [hl2]
              clear hx hal hdl hl1 hl2
              go_wp2_with fail
              go_ret
              exact ⟨retI E.out.symm, by (repeat' (first | exact Below.refl _ _ | refine below_drewN ?_ _ | refine Below.drew ?_ | refine frA ?_ _ | refine Fr.trans ?_ HF.out | refine Fr.trans ?_ HF1.out))⟩
          · have E : Hid (sysCheck B K rows = 4) := sysCheck_bad HH1.out (Int.not_lt.2 HH2.out) hx fun e => hl1 (by rw [← hal]; exact e.has)
            have t1 : ((n1 : Int) != B) = true := by simp [hl1]
            clear hx hal hdl hl1
            go_wp2_with fail
            go_ret
            exact ⟨retI E.out.symm, by (repeat' (first | exact Below.refl _ _ | refine below_drewN ?_ _ | refine Below.drew ?_ | refine frA ?_ _ | refine Fr.trans ?_ HF.out | refine Fr.trans ?_ HF1.out))⟩
        · obtain rfl : i = n := by omega
          have E : Hid (sysCheck B K rows = 0) := sysCheck_good HH1.out (Int.not_lt.2 HH2.out) fun i' r hr => HR.out i' r (by have := (List.getElem?_eq_some_iff.1 hr).1; have := Hlen.out; omega) hr
          go_wp2_with fail
          go_ret
          exact ⟨retI E.out.symm, HF1.out.trans HF.out⟩
end Go.Proofs.Ytojoodmnmhcojaa
