/- Contracts of the reference's BlocksOf, CheckPlan, CutUp, Joined. No condition. -/
import Derived.Test.YtnfjghldcopaaaaCut
import Derived.Test.YtnfjghldcopaaaaSum
import Derived.Test.YtnfjghldcopaaaaApp
import Derived.Test.YtnfjghldcopaaaaConcat
set_option linter.unusedSimpArgs false
set_option linter.unusedVariables false
namespace Go.Proofs.Ytnfjghldcopaaaa
open Go.RowKit

theorem blocks_alt {B K : Int} (hB : 1 ≤ B) (hK : 1 ≤ K) : blocksOf B K = B / K + (if 0 < B % K then 1 else 0) := by
  have e : blocksOf B K = (B - 1) / K + 1 := by unfold blocksOf; rw [if_neg (by omega)]
  have h1 := Int.mul_ediv_add_emod B K
  have h2 := Int.emod_nonneg B (show K ≠ 0 by omega)
  have h3 := Int.emod_lt_of_pos B (show 0 < K by omega)
  rw [e]
  generalize B / K = q at *
  generalize B % K = r at *
  split
  · have : B - 1 = (r - 1) + K * q := by omega
    rw [this, Int.add_mul_ediv_left _ _ (by omega), Int.ediv_eq_zero_of_lt (by omega) (by omega)]; omega
  · have : B - 1 = (K - 1) + K * (q - 1) := by rw [Int.mul_sub]; omega
    rw [this, Int.add_mul_ediv_left _ _ (by omega), Int.ediv_eq_zero_of_lt (by omega) (by omega)]; omega

set_option maxHeartbeats 400000 in
theorem refBlocks_any (w : World) (B K : Int) (hB : wfI B) (hK : wfI K) :
    Calls Try.prog 82 #[.agg #[.int .i64 B, .int .i64 K]] w fun e w' => e = .returned (.int .i64 (blocksOf B K)) ∧ Fr w w' := by
  obtain ⟨hB1, hB2⟩ := hB.bd
  obtain ⟨hK1, hK2⟩ := hK.bd
  by_cases h1 : B < 1
  · have E : Hid (blocksOf B K = 0) := if_pos (.inr h1)
    clear hB1 hB2 hK1 hK2
    go_enter Try.func82, Try.ntmps82
    go_wp2
    go_ret
    exact ⟨retI E.out.symm, (by (repeat' (first | exact Below.refl _ _ | refine below_drewN ?_ _ | refine Below.drew ?_ | refine frA ?_ _ | refine Fr.trans ?_ Hf1.out)))⟩
  · by_cases h2 : K < 1
    · have E : Hid (blocksOf B K = 0) := if_pos (.inl h2)
      clear hB1 hB2 hK1 hK2
      go_enter Try.func82, Try.ntmps82
      go_wp2
      go_ret
      exact ⟨retI E.out.symm, (by (repeat' (first | exact Below.refl _ _ | refine below_drewN ?_ _ | refine Below.drew ?_ | refine frA ?_ _ | refine Fr.trans ?_ Hf1.out)))⟩
    · have E := Lib.hid (blocks_alt (B := B) (K := K) (by omega) (by omega))
      have h3 := Int.ediv_le_self K (show 0 ≤ B by omega)
      have h4 := Int.ediv_nonneg (show 0 ≤ B by omega) (show 0 ≤ K by omega)
      have h5 := Int.emod_lt_of_pos B (show 0 < K by omega)
      have h6 : 0 < B % K → B / K + 1 ≤ 9223372036854775807 := by
        intro h7
        have e1 := Int.mul_ediv_add_emod B K
        have e2 : 2 ≤ K := by omega
        have e3 : 2 * (B / K) ≤ K * (B / K) := Int.mul_le_mul_of_nonneg_right e2 h4
        generalize B / K = q at *
        generalize B % K = r at *
        generalize K * q = z at *
        omega
      by_cases h7 : 0 < B % K
      · have E2 := Lib.hid h7
        have h8 := h6 h7
        clear hB1 hK1 hK2 h5 h6
        go_enter Try.func82, Try.ntmps82
        go_wp2
        go_ret
        exact ⟨retI (by rw [E.out, if_pos E2.out]), (by (repeat' (first | exact Below.refl _ _ | refine below_drewN ?_ _ | refine Below.drew ?_ | refine frA ?_ _ | refine Fr.trans ?_ Hf1.out)))⟩
      · have E2 := Lib.hid h7
        clear hB1 hK1 hK2 h5 h6
        go_enter Try.func82, Try.ntmps82
        go_wp2
        go_ret
        exact ⟨retI (by rw [E.out, if_neg (Int.not_lt.2 E2.out)]; omega), (by (repeat' (first | exact Below.refl _ _ | refine below_drewN ?_ _ | refine Below.drew ?_ | refine frA ?_ _ | refine Fr.trans ?_ Hf1.out)))⟩

set_option maxHeartbeats 400000 in
theorem refCheckPlan_any (w : World) (B K : Int) (hB : wfI B) (hK : wfI K) :
    Calls Try.prog 80 #[.agg #[.int .i64 B, .int .i64 K]] w fun e w' => e = .returned (.int .i64 (cutCheck B K)) ∧ Fr w w' := by
  by_cases h : B < 1 ∨ 360 < B ∨ K < 1 ∨ 16 < K
  · have E : Hid (cutCheck B K = 3) := if_pos h
    by_cases h1 : 1 ≤ B ∧ B ≤ 360
    · have r1 := inR_t h1
      have r2 : inR K 1 16 = false := inR_f (by omega)
      clear h h1
      go_enter Try.func80, Try.ntmps80
      go_wp2_with (go_at_call 61; refine (in_any _ _ _ _).mono ?_; rintro e w' ⟨rfl, rfl⟩)
      go_ret
      exact ⟨retI E.out.symm, (by (repeat' (first | exact Below.refl _ _ | refine below_drewN ?_ _ | refine Below.drew ?_ | refine frA ?_ _ | refine Fr.trans ?_ Hf1.out)))⟩
    · have r1 : inR B 1 360 = false := inR_f h1
      clear h h1
      go_enter Try.func80, Try.ntmps80
      go_wp2_with (go_at_call 61; refine (in_any _ _ _ _).mono ?_; rintro e w' ⟨rfl, rfl⟩)
      go_ret
      exact ⟨retI E.out.symm, (by (repeat' (first | exact Below.refl _ _ | refine below_drewN ?_ _ | refine Below.drew ?_ | refine frA ?_ _ | refine Fr.trans ?_ Hf1.out)))⟩
  · have r1 : inR B 1 360 = true := inR_t (by omega)
    have r2 : inR K 1 16 = true := inR_t (by omega)
    have E : Hid (cutCheck B K = if 24 < blocksOf B K then 2 else 0) := if_neg h
    clear h
    by_cases h5 : 24 < blocksOf B K
    all_goals
      have E2 := Lib.hid h5
      go_enter Try.func80, Try.ntmps80
      go_wp2_with (first | (go_at_call 61; refine (in_any _ _ _ _).mono ?_; rintro e w' ⟨rfl, rfl⟩) | (go_at_call 82; refine (refBlocks_any _ _ _ hB hK).mono ?_; rintro e w1 ⟨rfl, hf1⟩; have Hf1 := Lib.hid hf1; clear hf1))
      go_ret
      exact ⟨retI (by rw [E.out]; simp [E2.out]), (by (repeat' (first | exact Below.refl _ _ | refine below_drewN ?_ _ | refine Below.drew ?_ | refine frA ?_ _ | refine Fr.trans ?_ Hf1.out)))⟩

/-- A block, as far as it is filled. -/
def fillTo (p : List UInt8) (k : Nat) : List UInt8 := p.take k ++ List.replicate (p.length - k) 0
theorem fillTo_zero (p : List UInt8) : fillTo p 0 = List.replicate p.length 0 := by simp [fillTo]
theorem fillTo_all (p : List UInt8) {k : Nat} (h : p.length ≤ k) : fillTo p k = p := by simp [fillTo, List.take_of_length_le h, Nat.sub_eq_zero_of_le h]
theorem length_fillTo (p : List UInt8) {k : Nat} (h : k ≤ p.length) : (fillTo p k).length = p.length := by simp [fillTo]; omega
theorem fillTo_get (p : List UInt8) {k : Nat} (h : k < p.length) : (fillTo p k)[k]? = some 0 := by
  unfold fillTo
  rw [List.getElem?_append_right (by rw [List.length_take]; omega), List.length_take, Nat.min_eq_left (by omega), Nat.sub_self]
  rw [List.getElem?_replicate, if_pos (by omega)]
theorem fillTo_set (p : List UInt8) {k : Nat} {x : UInt8} (h : p[k]? = some x) : (fillTo p k).set k x = fillTo p (k + 1) := by
  have hk := (List.getElem?_eq_some_iff.1 h).1
  unfold fillTo
  rw [List.set_append_right _ _ (by rw [List.length_take]; omega), List.length_take, Nat.min_eq_left (by omega), Nat.sub_self, take_snoc' h, List.append_assoc]
  obtain ⟨m, hm⟩ : ∃ m, p.length - k = m + 1 := ⟨p.length - k - 1, by omega⟩
  rw [hm, List.replicate_succ, List.set_cons_zero, show p.length - (k + 1) = m from by omega]; rfl
theorem fillTo_skip (p : List UInt8) {k : Nat} (h : p[k]? = some 0) : fillTo p k = fillTo p (k + 1) := by
  rw [← fillTo_set p h]
  apply List.ext_getElem?
  intro i
  by_cases hi : i = k
  · subst hi
    have hk := (List.getElem?_eq_some_iff.1 h).1
    rw [List.getElem?_set_self (by rw [length_fillTo p (by omega)]; exact hk), fillTo_get p hk]
  · rw [List.getElem?_set_ne (fun e => hi e.symm)]

/-- The blocks of a cargo, one by one. -/
theorem cutF_get {K : Nat} (hK : 1 ≤ K) : ∀ f c i, c.length ≤ f → i * K < c.length → (cutF K f c)[i]? = some (padTo K ((c.drop (i * K)).take K))
  | 0, c, i, h, hi => by omega
  | f + 1, c, 0, h, hi => by rw [cutF, if_neg (by omega)]; simp
  | f + 1, c, i + 1, h, hi => by
    rw [Nat.add_mul, Nat.one_mul] at hi
    rw [cutF, if_neg (by omega), List.getElem?_cons_succ, cutF_get hK f (c.drop K) i (by rw [List.length_drop]; omega) (by rw [List.length_drop]; omega), List.drop_drop, Nat.add_mul, Nat.one_mul, Nat.add_comm K]
theorem padTo_get {K k : Nat} {c : List UInt8} (h : k < K) (hc : c.length ≤ K) : (padTo K c)[k]? = some (c.getD k 0) := by
  unfold padTo
  by_cases hk : k < c.length
  · rw [List.getElem?_append_left hk, List.getElem?_eq_getElem hk]; simp [hk]
  · rw [List.getElem?_append_right (by omega), List.getElem?_replicate, if_pos (by omega)]; simp [List.getElem?_eq_none (show c.length ≤ k by omega)]
theorem cut_count {n K : Nat} {c : List UInt8} (hck : cutCheck n K = 0) (hl : c.length = n) {m : Nat} (hm : (m : Int) = blocksOf n K) : (cutF K n c).length = m ∧ ∀ i, i < m → i * K < n := by
  obtain ⟨⟨h1, h2⟩, ⟨h3, h4⟩, _, _, h5⟩ := cutCheck_ok hck
  have hK : 1 ≤ K := by omega
  have e : m = (n - 1) / K + 1 := by
    have : ((n : Int) - 1) / K = (((n - 1) / K : Nat) : Int) := by
      rw [show ((n : Int) - 1) = ((n - 1 : Nat) : Int) from by omega]; simp
    omega
  refine ⟨?_, fun i hi => ?_⟩
  · rw [cutF_length hK n c (by omega), hl, e, show n + K - 1 = (n - 1) + K from by omega, Nat.add_div_right _ (by omega)]
  · have : i ≤ (n - 1) / K := by omega
    have := (Nat.le_div_iff_mul_le (by omega)).1 this
    omega

set_option maxHeartbeats 2000000 in
theorem refCutUp_ok (w : World) (A : Option Addr) (n c K : Nat) (cargo : List UInt8) (h : Sl 1 eByte w (LT w.heap.size) A n cargo) (hck : cutCheck n K = 0) :
    Calls Try.prog 77 #[.agg #[.int .i64 n, .int .i64 K], .slice A n c] w fun e w' => ∃ v, e = .returned (.tuple #[v, .int .i64 0]) ∧ Own 1 eBlock w' w.heap.size 27 v (cutF K n cargo) ∧ Fr w w' := by
  obtain ⟨⟨h1, h2⟩, ⟨h3, h4⟩, h5, h6, _⟩ := cutCheck_ok hck
  have CC := Lib.hid (fun W : World => refCheckPlan_any W (n : Int) (K : Int) (wfI.mk (by omega)) (wfI.mk (by omega)))
  rw [hck] at CC
  have CB := Lib.hid (fun W : World => refBlocks_any W (n : Int) (K : Int) (wfI.mk (by omega)) (wfI.mk (by omega)))
  obtain ⟨m, hm⟩ : ∃ m : Nat, (m : Int) = blocksOf n K := ⟨(blocksOf n K).toNat, Int.toNat_of_nonneg (by omega)⟩
  rw [← hm] at CB
  have hn1 : 1 ≤ n ∧ n ≤ 360 := by omega
  have hK1 : 1 ≤ K ∧ K ≤ 16 := by omega
  obtain ⟨hn1, hn2⟩ := hn1
  obtain ⟨hK1, hK2⟩ := hK1
  have hm24 : m ≤ 24 := by omega
  obtain ⟨hc1, hc2⟩ := cut_count hck h.1 hm
  have hlen := h.1
  have hne : ((n : Int) != (n : Int)) = false := by simp
  have hmk := run_make_ca (P := Try.prog) bV 0 27 5 1 Try.underlying27 infoByte rfl .i64 .i64 K (by omega) (by omega)
  obtain ⟨ad, rfl, hE⟩ := h.els (by omega)
  clear h1 h2 h3 h4 h5 h6
  (have H := Lib.hid h; clear h; have Hck := Lib.hid hck; clear hck; have Hm := Lib.hid hm; clear hm; have Hc1 := Lib.hid hc1; clear hc1; have Hc2 := Lib.hid hc2; clear hc2; have Hlen := Lib.hid hlen; clear hlen)
  go_enter Try.func77, Try.ntmps77
  go_wp2_with fail
  refine (CC.out _).mono ?_
  rintro e w1 ⟨rfl, hf1⟩
  have hf0 : Fr w w1 := (frAlloc _ _).trans hf1
  obtain ⟨hb0, hb1⟩ := box2 hf1
  (have Hf1 := Lib.hid hf1; clear hf1; have Hf0 := Lib.hid hf0; clear hf0)
  go_wp2_with fail
  refine (CB.out _).mono ?_
  rintro e w2 ⟨rfl, hf2⟩
  have hb0 := (hf2.cell (World.block_lt_of_cell? w1 _ hb0)).trans hb0
  have hb1 := (hf2.cell (World.block_lt_of_cell? w1 _ hb1)).trans hb1
  have hf02 : Fr w w2 := Hf0.out.trans hf2
  clear hf2
  (have Hf02 := Lib.hid hf02; clear hf02)
  go_wp2_with fail
  go_loopw [7, 24] (fun v i wr => ∃ k : Nat, k ≤ m ∧ i = .int .i64 k ∧ Hid (Own 1 eBlock wr w2.heap.size 27 v ((cutF K n cargo).take k)) ∧ Hid (Fr w2 wr)) (fun _ i _ => m - (intOf i).toNat)
  case atStart => exact ⟨0, Nat.zero_le _, rfl, Own.nil, Below.refl _ _⟩
  case round =>
    obtain ⟨k, hk, rfl, HO, HF⟩ := hrel
    have hb0' : wr.cell? ⟨w.heap.size, 0, none⟩ = some (.int .i64 n) := (HF.out.cell (World.block_lt_of_cell? w2 _ hb0)).trans hb0
    have hb1' : wr.cell? ⟨w.heap.size, 1, none⟩ = some (.int .i64 K) := (HF.out.cell (World.block_lt_of_cell? w2 _ hb1)).trans hb1
    by_cases hlt : k < m
    · obtain ⟨p, hp⟩ : ∃ p, p = padTo K ((cargo.drop (k * K)).take K) := ⟨_, rfl⟩
      have hkK := Hc2.out k hlt
      have HPK : Hid ((cutF K n cargo)[k]? = some p) := by
        rw [Hid, hp]; exact cutF_get hK1 n cargo k (by have := Hlen.out; omega) (by have := Hlen.out; omega)
      have Hpl : Hid (p.length = K) := by rw [Hid, hp]; exact length_padTo (by rw [List.length_take]; omega)
      have Hpg : Hid (∀ j, j < K → p[j]? = some (cargo.getD (k * K + j) 0)) := by
        intro j hj
        rw [hp, padTo_get hj (by rw [List.length_take]; omega)]
        simp [List.getD, List.getElem?_take, hj, List.getElem?_drop]
      have hkK2 : k * K ≤ 360 := by omega
      obtain ⟨T, hT⟩ : ∃ T, T = k * K := ⟨_, rfl⟩
      rw [← hT] at Hpg hkK2
      have hw1 : wrap64 ((k : Int) * (K : Int)) = (T : Int) := by rw [← Int.natCast_mul, ← hT]; exact IntWalk.wrap64_in _ (by omega)
      clear hkK
      (have HT := Lib.hid hT; clear hT)
      have hhs := HF.out.size
      clear hp
      obtain ⟨wo, rfl⟩ : ∃ wo : World, wo = wr := ⟨_, rfl⟩
      go_wp2_with fail
      go_loopw [32] (fun j wr => ∃ q : Nat, q ≤ K ∧ j = .int .i64 q ∧ Hid (wr.heap[wo.heap.size]? = some (.cells (ca bV (fillTo p q)) 5 (0, 0))) ∧ Hid (Fr wo wr)) (fun j _ => K - (intOf j).toNat)
      case atStart => exact ⟨0, Nat.zero_le _, rfl, by rw [Hid, fillTo_zero, Hpl.out]; exact heap_new rfl, frAlloc _ _⟩
      case round =>
        obtain ⟨q, hq, rfl, HG, HQ⟩ := hrel
        have hb1'' : wr.cell? ⟨w.heap.size, 1, none⟩ = some (.int .i64 K) := (HQ.out.cell (World.block_lt_of_cell? wo _ hb1')).trans hb1'
        by_cases hql : q < K
        · have hpq := Hpg.out q hql
          by_cases hqn : T + q < n
          · obtain ⟨x, hx, hcx⟩ := hE.byte hqn
            have hcx2 : wr.cell? (ad.add (T + q)) = some (.int .u8 (x.toNat : Int)) := ((((Hf02.out.trans HF.out).trans HQ.out)).cell (p := ad.add (T + q)) (by rw [block_of_add]; exact hE.2.1)).trans hcx
            have hcg := ca_cell HG.out (fillTo_get p (show q < p.length by rw [Hpl.out]; exact hql))
            have hfg : wr.frozen? ⟨wo.heap.size, q, none⟩ = false := ca_free HG.out
            have R : Hid ((wr.setCell ⟨wo.heap.size, q, none⟩ (bV x)).heap[wo.heap.size]? = some (.cells (ca bV (fillTo p (q + 1))) 5 (0, 0))) := by
              rw [Hid, ← fillTo_set p (x := x) (by rw [hpq]; simp [hx])]
              exact ca_set HG.out
            have R2 : Hid (Fr wo (wr.setCell ⟨wo.heap.size, q, none⟩ (bV x))) := HQ.out.setCell (Nat.le_refl _) _
            have hqi : (T : Int) + (q : Int) < (n : Int) := by omega
            clear hx hcx hpq
            go_wp2_with fail
            go_roundw
            case rel => exact ⟨q + 1, by omega, by go_num, R, R2⟩
            case measure => simp [intOf]; omega
          · have R : Hid (wr.heap[wo.heap.size]? = some (.cells (ca bV (fillTo p (q + 1))) 5 (0, 0))) := by
              rw [Hid, ← fillTo_skip p]
              · exact HG.out
              · rw [hpq]; simp [List.getElem?_eq_none (show cargo.length ≤ T + q by have := Hlen.out; omega)]
            have hqi : ¬ (T : Int) + (q : Int) < (n : Int) := by omega
            clear hpq
            go_wp2_with fail
            go_roundw
            case rel => exact ⟨q + 1, by omega, by go_num, R, HQ⟩
            case measure => simp [intOf]; omega
        · obtain rfl : q = K := by omega
          have HP : Hid (wr.heap[wo.heap.size]? = some (.cells (ca bV p) 5 (0, 0))) := by rw [Hid, ← fillTo_all p (k := q) (by rw [Hpl.out]; exact Nat.le_refl _)]; exact HG.out
          have HOr : Hid (Own 1 eBlock wr w2.heap.size 27 u7 ((cutF q n cargo).take k)) := HO.out.fr wBlock HQ.out
          have HFr : Hid (Fr w2 wr) := HF.out.trans HQ.out
          have HY : Hid (eBlock wr (fun b => b < wr.heap.size ∧ u7.ownBlock ≠ some b) (fun j => [Value.slice (some ⟨wo.heap.size, 0, none⟩) q q][j]?) p) := by
            refine ⟨_, _, _, rfl, ⟨by unfold lim; omega, Nat.le_refl _, by unfold maxLen; omega⟩, ca_bytes HP.out ⟨ca_lt HP.out, fun e => ?_⟩ Hpl.out⟩
            obtain ⟨cs, ho, _⟩ := HO.out
            have := (ho.lt _ e).2
            omega
          have Hll : Hid (((cutF q n cargo).take k).length + 1 ≤ 25) := by rw [Hid, List.length_take]; omega
          have HT2 : Hid ((cutF q n cargo).take (k + 1) = (cutF q n cargo).take k ++ [p]) := take_snoc' HPK.out
          clear HG
          go_wp2_with (at_builtin; refine wpList_app1 rfl _ _ 35 rfl w2.heap.size 27 (.slice none 0 0) 24 Try.underlying35 infoBlock rfl (by decide) wBlock wr (frAlloc _ _) _ ((cutF q n cargo).take k) rfl HOr.out wr.heap.size [.slice (some ⟨wo.heap.size, 0, none⟩) q q] 27 (0, 0) rfl (heap_new rfl) rfl ?c1 p HY.out ?c2 ?c3 w2.heap.size w2 HFr.out (Nat.le_refl _) HFr.out.size ?_)
          case c1 => simp [Value.oneCell']
          case c2 => have := Hll.out; unfold maxLen; omega
          case c3 => have := Hll.out; unfold lim; omega
          intro v' w3 HO3 HF3
          rw [← HT2.out] at HO3
          go_wp2_with fail
          go_roundw
          case rel => exact ⟨k + 1, by omega, by go_num, HO3, HF3⟩
          case measure => simp [intOf]; omega
    · obtain rfl : k = m := by omega
      have HF5 : Hid (Own 1 eBlock wr w.heap.size 27 u7 (cutF K n cargo)) := by
        have := HO.out.lower (base' := w.heap.size) Hf02.out.size
        rw [List.take_of_length_le (by rw [Hc1.out]; exact Nat.le_refl _)] at this
        exact this
      go_wp2_with fail
      go_ret2
      exact ⟨u7, rfl, HF5.out, Hf02.out.trans HF.out⟩

set_option maxHeartbeats 400000 in
/-- What the reference's CutUp answers. -/
theorem refCutUp_any (w : World) (A : Option Addr) (n c : Nat) (B K : Int) (cargo : List UInt8) (h : Sl 1 eByte w (LT w.heap.size) A n cargo) (wB : wfI B) (wK : wfI K) :
    Calls Try.prog 77 #[.agg #[.int .i64 B, .int .i64 K], .slice A n c] w fun e w' => ∃ v, e = .returned (.tuple #[v, .int .i64 (cutUp B K cargo).2]) ∧ Own 1 eBlock w' w.heap.size 27 v (cutUp B K cargo).1 ∧ Fr w w' := by
  have hl := h.1
  by_cases hck : cutCheck B K = 0
  · by_cases hn : (n : Int) = B
    · subst hn
      obtain ⟨k, rfl⟩ := Int.eq_ofNat_of_zero_le (show 0 ≤ K by have := (cutCheck_ok hck).2.1; omega)
      have E : cutUp n k cargo = (cutF k n cargo, 0) := by
        unfold cutUp
        rw [if_neg (by simp [hck]), if_neg (by simp [hl]), hl]
        rfl
      rw [E]
      exact refCutUp_ok w A n c k cargo h hck
    · have E : Hid (cutUp B K cargo = ([], 4)) := by
        unfold cutUp Hid
        rw [if_neg (by simp [hck]), if_pos (by rw [hl]; exact hn)]
      have CC := Lib.hid (fun W : World => refCheckPlan_any W B K wB wK)
      rw [hck] at CC
      have hne : ((n : Int) != B) = true := by rw [bne_iff_ne]; exact hn
      clear hck hn hl h
      go_enter Try.func77, Try.ntmps77
      go_wp2_with fail
      refine (CC.out _).mono ?_
      rintro e w1 ⟨rfl, hf1⟩
      have hf0 : Fr w w1 := (frAlloc _ _).trans hf1
      obtain ⟨hb0, hb1⟩ := box2 hf1
      (have Hf1 := Lib.hid hf1; clear hf1; have Hf0 := Lib.hid hf0; clear hf0)
      go_wp2_with fail
      go_ret2
      rw [E.out]
      exact ⟨_, rfl, Own.nil, Hf0.out⟩
  · have E : Hid (cutUp B K cargo = ([], cutCheck B K)) := if_pos hck
    have CC := Lib.hid (fun W : World => refCheckPlan_any W B K wB wK)
    have hne : (cutCheck B K != 0) = true := by rw [bne_iff_ne]; exact hck
    clear hck hl h
    go_enter Try.func77, Try.ntmps77
    go_wp2_with fail
    refine (CC.out _).mono ?_
    rintro e w1 ⟨rfl, hf1⟩
    have hf0 : Fr w w1 := (frAlloc _ _).trans hf1
    obtain ⟨hb0, hb1⟩ := box2 hf1
    (have Hf1 := Lib.hid hf1; clear hf1; have Hf0 := Lib.hid hf0; clear hf0)
    go_wp2_with fail
    go_ret2
    rw [E.out]
    exact ⟨_, rfl, Own.nil, Hf0.out⟩

set_option maxHeartbeats 2000000 in
theorem refJoined_body (w : World) (A : Option Addr) (n c B K : Nat) (ls : List (List UInt8)) (h : Sl 1 eBlock w (LT w.heap.size) A n ls) (hck : cutCheck B K = 0) (hn : (n : Int) = blocksOf B K) (hs : lens ls ≤ lim) :
    Calls Try.prog 86 #[.agg #[.int .i64 B, .int .i64 K], .slice A n c] w fun e w' => ∃ A' n' c', e = .returned (.tuple #[.slice A' n' c', .int .i64 (joinUp B K ls).2]) ∧ n' ≤ 360 ∧ n' ≤ c' ∧ c' ≤ maxLen ∧ Sl 1 eByte w' (LT w'.heap.size) A' n' (joinUp B K ls).1 ∧ Fr w w' := by
  obtain ⟨⟨h1, h2⟩, ⟨h3, h4⟩, h5, h6, _⟩ := cutCheck_ok hck
  have CC := Lib.hid (fun W : World => refCheckPlan_any W (B : Int) (K : Int) (wfI.mk (by omega)) (wfI.mk (by omega)))
  rw [hck] at CC
  have CB := Lib.hid (fun W : World => refBlocks_any W (B : Int) (K : Int) (wfI.mk (by omega)) (wfI.mk (by omega)))
  rw [← hn] at CB
  have hlen := h.1
  obtain ⟨hm1, hm2⟩ := blocks_hold hck hn
  have hb : 1 ≤ B ∧ B ≤ 360 ∧ 1 ≤ K ∧ K ≤ 16 ∧ 1 ≤ n := by omega
  obtain ⟨hB1, hB2, hK1, hK2, hn1⟩ := hb
  have HN : Hid ((ls.length : Int) = blocksOf B K) := by rw [Hid, hlen]; exact hn
  have hne : ((n : Int) != (n : Int)) = false := by simp
  have hnl : n ≤ lim := by unfold lim; omega
  have hsl : lens ls * 1 ≤ lim := by rw [Nat.mul_one]; exact hs
  clear h1 h2 h3 h4 h5 h6 hn
  (have H := Lib.hid h; clear h; have Hck := Lib.hid hck; clear hck; have Hlen := Lib.hid hlen; clear hlen; have Hs := Lib.hid hs; clear hs; have Hsl := Lib.hid hsl; clear hsl; have Hnl := Lib.hid hnl; clear hnl)
  go_enter Try.func86, Try.ntmps86
  go_wp2_with fail
  refine (CC.out _).mono ?_
  rintro e w1 ⟨rfl, hf1⟩
  have hf0 : Fr w w1 := (frAlloc _ _).trans hf1
  obtain ⟨hb0, hb1⟩ := box2 hf1
  (have Hf1 := Lib.hid hf1; clear hf1; have Hf0 := Lib.hid hf0; clear hf0)
  go_wp2_with fail
  refine (CB.out _).mono ?_
  rintro e w2 ⟨rfl, hf2⟩
  have hb0 := (hf2.cell (World.block_lt_of_cell? w1 _ hb0)).trans hb0
  have hb1 := (hf2.cell (World.block_lt_of_cell? w1 _ hb1)).trans hb1
  have hs2 := H.out.go wBlock (Hf0.out.trans hf2)
  (have Hf2 := Lib.hid hf2; clear hf2; have Hs2 := Lib.hid hs2; clear hs2)
  go_wp2_with fail
  (with_reducible refine (concatBlock_any _ _ _ _ ls Hs2.out Hnl.out Hsl.out Hs.out).mono ?_)
  rintro e w3 ⟨v3, rfl, ho3, hf3⟩
  have hb0 := (hf3.cell (World.block_lt_of_cell? w2 _ hb0)).trans hb0
  have hb1 := (hf3.cell (World.block_lt_of_cell? w2 _ hb1)).trans hb1
  have hs3 := Hs2.out.go wBlock hf3
  have hF3 : Fr w w3 := ((Hf0.out.trans Hf2.out).trans hf3)
  obtain ⟨X, hX⟩ : ∃ X, X = ls.flatten := ⟨_, rfl⟩
  rw [← hX] at ho3
  obtain ⟨A3, c3, rfl, hc3, hsX⟩ := ho3.slC sByte (by decide)
  (have Hf3 := Lib.hid hf3; clear hf3; have Hs3 := Lib.hid hs3; clear hs3; have HF3 := Lib.hid hF3; clear hF3; have Ho3 := Lib.hid ho3; clear ho3; have HsX := Lib.hid hsX; clear hsX; have HX := Lib.hid hX; clear hX; have Hc3 := Lib.hid hc3; clear hc3)
  obtain ⟨ad, rfl, hE⟩ := Hs3.out.els (by omega)
  go_wp2_with fail
  go_loop [25] (fun i => ∃ k : Nat, k ≤ n ∧ i = .int .i64 k ∧ Hid (∀ b ∈ ls.take k, b.length = K)) (fun i => n - (intOf i).toNat)
  case atStart => exact ⟨0, Nat.zero_le _, rfl, by simp [Hid]⟩
  case round =>
    obtain ⟨k, hk, rfl, HL⟩ := hrel
    by_cases hlt : k < n
    · obtain ⟨A', n', c', l, hl, hcl, hm', hs⟩ := hE.block hlt
      by_cases hnK : n' = K
      · subst hnK
        have hne2 : ((n' : Int) != (n' : Int)) = false := by simp
        have HL' : Hid (∀ b ∈ ls.take (k + 1), b.length = n') := by
          intro b hb
          rw [take_snoc' hl] at hb
          rcases List.mem_append.1 hb with hb | hb
          · exact HL.out b hb
          · rw [List.mem_singleton.1 hb]; exact hs.1
        clear hl hs
        go_wp2_with fail
        go_round
        case rel => exact ⟨k + 1, by omega, by go_num, HL'⟩
        case measure => simp [intOf]; omega
      · have hne2 : ((n' : Int) != (K : Int)) = true := by rw [bne_iff_ne]; omega
        have E : Hid (joinUp B K ls = ([], 4)) := join_form Hck.out HN.out (List.mem_of_getElem? hl) (by rw [hs.1]; omega)
        clear hl hs hnK
        go_wp2_with fail
        go_ret2
        rw [E.out]
        exact ⟨none, 0, 0, rfl, by omega, by omega, by unfold maxLen; omega, Sl.nil, HF3.out⟩
    · obtain rfl : k = n := by omega
      have ht : Hid (ls.take k = ls) := List.take_of_length_le (by have := Hlen.out; omega)
      rw [ht.out] at HL
      have HHL : Hid (∀ b ∈ ls, (b.length : Int) = K) := fun b hb => by rw [HL.out b hb]
      obtain ⟨T, hT⟩ : ∃ T, T = X.length := ⟨_, rfl⟩
      have hkK : k * K ≤ 24 * 16 := Nat.mul_le_mul (by omega) hK2
      have hTk : T = k * K := by rw [hT, HX.out, length_flatten HL.out, Hlen.out]
      have hBT : B ≤ T := by omega
      have hT2 : T ≤ 384 := by omega
      rw [← hT] at HsX Hc3 ⊢
      obtain ⟨adX, rfl, hXE⟩ := HsX.out.els (by omega)
      have HPRE : Hid (Sl 1 eByte w3 (LT w3.heap.size) (some adX) B (X.take B)) := hXE.sl.pre hBT
      have hc3' : T ≤ c3 := Hc3.out.1
      have hc3'' : B ≤ c3 := by omega
      clear hTk
      (have HT := Lib.hid hT; clear hT)
      go_wp2_with fail
      go_loop [10] (fun i => ∃ j : Nat, B ≤ j ∧ j ≤ T ∧ i = .int .i64 j ∧ Hid (∀ x ∈ (X.drop B).take (j - B), x = 0)) (fun i => T - (intOf i).toNat)
      case atStart => exact ⟨B, Nat.le_refl _, hBT, rfl, by simp [Hid]⟩
      case round =>
        obtain ⟨j, hBj, hj, rfl, HZ⟩ := hrel
        by_cases hlt : j < T
        · obtain ⟨x, hx, hcx⟩ := hXE.byte hlt
          have hxd : (X.drop B)[j - B]? = some x := by rw [List.getElem?_drop, show B + (j - B) = j from by omega]; exact hx
          by_cases hx0 : x = 0
          · subst hx0
            have HZ' : Hid (∀ x ∈ (X.drop B).take (j + 1 - B), x = 0) := by
              intro y hy
              rw [show j + 1 - B = (j - B) + 1 from by omega, take_snoc' hxd] at hy
              rcases List.mem_append.1 hy with hy | hy
              · exact HZ.out y hy
              · exact List.mem_singleton.1 hy
            have hcx2 : w3.cell? (adX.add j) = some (.int .u8 0) := hcx
            clear hx hcx hxd
            go_wp2_with fail
            go_round
            case rel => exact ⟨j + 1, by omega, by omega, by go_num, HZ'⟩
            case measure => simp [intOf]; omega
          · have hxb : ((x.toNat : Int) != 0) = true := by
              rw [bne_iff_ne]; intro e; exact hx0 (UInt8.toNat_inj.1 (by simpa using e))
            have E : Hid (joinUp B K ls = ([], 4)) := join_behind Hck.out HN.out HHL.out (x := x) (i := j - B) (by rw [← HX.out]; exact hxd) hx0
            clear hx hx0 hxd
            go_wp2_with fail
            go_ret2
            rw [E.out]
            exact ⟨none, 0, 0, rfl, by omega, by omega, by unfold maxLen; omega, Sl.nil, HF3.out⟩
        · have E : Hid (joinUp B K ls = (X.take B, 0)) := by
            rw [HX.out]
            refine join_ok Hck.out HN.out HHL.out fun x hx => HZ.out x ?_
            rw [List.take_of_length_le (by rw [List.length_drop, ← HT.out]; omega), HX.out]
            exact hx
          go_wp2_with fail
          go_ret2
          rw [E.out]
          exact ⟨some adX, B, c3, rfl, hB2, hc3'', Hc3.out.2, HPRE.out, HF3.out⟩

set_option maxHeartbeats 400000 in
/-- What the reference's Joined answers. -/
theorem refJoined_any (w : World) (A : Option Addr) (n c : Nat) (B K : Int) (ls : List (List UInt8)) (h : Sl 1 eBlock w (LT w.heap.size) A n ls) (hs : lens ls ≤ lim) (wB : wfI B) (wK : wfI K) :
    Calls Try.prog 86 #[.agg #[.int .i64 B, .int .i64 K], .slice A n c] w fun e w' => ∃ A' n' c', e = .returned (.tuple #[.slice A' n' c', .int .i64 (joinUp B K ls).2]) ∧ n' ≤ 360 ∧ n' ≤ c' ∧ c' ≤ maxLen ∧ Sl 1 eByte w' (LT w'.heap.size) A' n' (joinUp B K ls).1 ∧ Fr w w' := by
  have hl := h.1
  by_cases hck : cutCheck B K = 0
  · obtain ⟨b, rfl⟩ := Int.eq_ofNat_of_zero_le (show 0 ≤ B by have := (cutCheck_ok hck).1; omega)
    obtain ⟨k, rfl⟩ := Int.eq_ofNat_of_zero_le (show 0 ≤ K by have := (cutCheck_ok hck).2.1; omega)
    by_cases hn : (n : Int) = blocksOf b k
    · exact refJoined_body w A n c b k ls h hck hn hs
    · have E : Hid (joinUp b k ls = ([], 8)) := join_short hck (by rw [hl]; exact hn)
      have CC := Lib.hid (fun W : World => refCheckPlan_any W b k wB wK)
      rw [hck] at CC
      have CB := Lib.hid (fun W : World => refBlocks_any W b k wB wK)
      obtain ⟨q, hq⟩ : ∃ q, q = blocksOf b k := ⟨_, rfl⟩
      rw [← hq] at hn CB
      have hne : ((n : Int) != q) = true := by rw [bne_iff_ne]; exact hn
      clear hck hn hl h hq
      go_enter Try.func86, Try.ntmps86
      go_wp2_with fail
      refine (CC.out _).mono ?_
      rintro e w1 ⟨rfl, hf1⟩
      have hf0 : Fr w w1 := (frAlloc _ _).trans hf1
      obtain ⟨hb0, hb1⟩ := box2 hf1
      (have Hf1 := Lib.hid hf1; clear hf1; have Hf0 := Lib.hid hf0; clear hf0)
      go_wp2_with fail
      refine (CB.out _).mono ?_
      rintro e w2 ⟨rfl, hf2⟩
      (have Hf2 := Lib.hid hf2; clear hf2)
      go_wp2_with fail
      go_ret2
      rw [E.out]
      exact ⟨none, 0, 0, rfl, by omega, by omega, by unfold maxLen; omega, Sl.nil, by (repeat' (first | exact Below.refl _ _ | refine below_drewN ?_ _ | refine Below.drew ?_ | refine frA ?_ _ | refine Fr.trans ?_ Hf2.out | refine Fr.trans ?_ Hf0.out))⟩
  · have E : Hid (joinUp B K ls = ([], cutCheck B K)) := join_err hck
    have CC := Lib.hid (fun W : World => refCheckPlan_any W B K wB wK)
    have hne : (cutCheck B K != 0) = true := by rw [bne_iff_ne]; exact hck
    clear hck hl h
    go_enter Try.func86, Try.ntmps86
    go_wp2_with fail
    refine (CC.out _).mono ?_
    rintro e w1 ⟨rfl, hf1⟩
    have hf0 : Fr w w1 := (frAlloc _ _).trans hf1
    (have Hf1 := Lib.hid hf1; clear hf1; have Hf0 := Lib.hid hf0; clear hf0)
    go_wp2_with fail
    go_ret2
    rw [E.out]
    exact ⟨none, 0, 0, rfl, by omega, by omega, by unfold maxLen; omega, Sl.nil, Hf0.out⟩
end Go.Proofs.Ytnfjghldcopaaaa
