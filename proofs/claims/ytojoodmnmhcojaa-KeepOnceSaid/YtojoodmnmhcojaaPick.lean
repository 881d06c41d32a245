/- Contracts of package pick. No condition. -/
import Derived.Test.YtojoodmnmhcojaaOwn
import Derived.Test.YtojoodmnmhcojaaPickP
import Derived.Deep.LoopGhost
import Derived.Test.YtojoodmnmhcojaaEq
set_option linter.unusedSimpArgs false
set_option linter.unusedVariables false
namespace Go.Proofs.Ytojoodmnmhcojaa
open Go.RowKit

theorem next_any (w : World) (x : Nat) (hx : x < 65536) :
    Calls Try.prog 65 #[.int .i64 x] w fun e w' => e = .returned (.int .i64 (nxt x : Nat)) ∧ w = w' := by
  have E : Hid ((((x : Int) * 1109 + 12345) % 65536) = ((nxt x : Nat) : Int)) := by unfold nxt Hid; omega
  go_enter Try.func65, Try.ntmps65
  go_wp2
  go_ret
  exact ⟨retI (by rw [E.out]), rfl⟩

set_option maxRecDepth 100000 in
theorem degree_any (w : World) (x b : Nat) (hb : 1 ≤ b) (hb2 : b ≤ 24) :
    Calls Try.prog 66 #[.int .i64 x, .int .i64 b] w fun e w' => e = .returned (.int .i64 (degree x b : Nat)) ∧ w = w' := by
  have i0 : ∀ w, (Instr.index 130 (.agg #[.int .i64 8192, .int .i64 40960, .int .i64 51882, .int .i64 57344, .int .i64 60621]) (.int .i64 0)).run Try.prog w = .ok (.int .i64 8192) w := fun _ => by kernel_rfl
  have i1 : ∀ w, (Instr.index 130 (.agg #[.int .i64 8192, .int .i64 40960, .int .i64 51882, .int .i64 57344, .int .i64 60621]) (.int .i64 1)).run Try.prog w = .ok (.int .i64 40960) w := fun _ => by kernel_rfl
  have i2 : ∀ w, (Instr.index 130 (.agg #[.int .i64 8192, .int .i64 40960, .int .i64 51882, .int .i64 57344, .int .i64 60621]) (.int .i64 2)).run Try.prog w = .ok (.int .i64 51882) w := fun _ => by kernel_rfl
  have i3 : ∀ w, (Instr.index 130 (.agg #[.int .i64 8192, .int .i64 40960, .int .i64 51882, .int .i64 57344, .int .i64 60621]) (.int .i64 3)).run Try.prog w = .ok (.int .i64 57344) w := fun _ => by kernel_rfl
  have i4 : ∀ w, (Instr.index 130 (.agg #[.int .i64 8192, .int .i64 40960, .int .i64 51882, .int .i64 57344, .int .i64 60621]) (.int .i64 4)).run Try.prog w = .ok (.int .i64 60621) w := fun _ => by kernel_rfl
  go_enter Try.func66, Try.ntmps66
  go_wp2_with fail
  go_loop [8] (fun i => ∃ k : Nat, k ≤ 5 ∧ i = .int .i64 k ∧ (if k = 0 then 0 else if k = 1 then 8192 else if k = 2 then 40960 else if k = 3 then 51882 else if k = 4 then 57344 else 60621) ≤ (x : Int)) (fun i => 5 - (intOf i).toNat)
  case atStart => exact ⟨0, Nat.zero_le _, rfl, by simp⟩
  case round =>
    obtain ⟨k, hk, rfl, hx2⟩ := hrel
    rcases (show k = 0 ∨ k = 1 ∨ k = 2 ∨ k = 3 ∨ k = 4 ∨ k = 5 from by omega) with rfl | rfl | rfl | rfl | rfl | rfl
    · have hx3 : (0 : Int) ≤ x := by omega
      clear hx2
      by_cases hlt : (x : Int) < 8192
      · have E : Hid ((degree x b : Int) = min (1 : Int) b) := by
          unfold Hid degree
          repeat' (first | rw [if_pos (by omega)] | rw [if_neg (by omega)])
          omega
        clear hx3
        have hb1 : decide ((x : Int) < 8192) = true := decide_eq_true hlt
        clear hlt
        by_cases hbk : (1 : Int) ≤ b
        all_goals
          go_wp2
          go_ret
          exact ⟨retI (by rw [E.out]; omega), rfl⟩
      · clear hx3
        have hb1 : decide ((x : Int) < 8192) = false := decide_eq_false hlt
        have HLT := Lib.hid hlt
        clear hlt
        go_wp2
        go_round
        case rel => exact ⟨_, by decide, rfl, by have := HLT.out; simp; omega⟩
        case measure => simp [intOf]
    · have hx3 : (8192 : Int) ≤ x := by omega
      clear hx2
      by_cases hlt : (x : Int) < 40960
      · have E : Hid ((degree x b : Int) = min (2 : Int) b) := by
          unfold Hid degree
          repeat' (first | rw [if_pos (by omega)] | rw [if_neg (by omega)])
          omega
        clear hx3
        have hb1 : decide ((x : Int) < 40960) = true := decide_eq_true hlt
        clear hlt
        by_cases hbk : (2 : Int) ≤ b
        all_goals
          go_wp2
          go_ret
          exact ⟨retI (by rw [E.out]; omega), rfl⟩
      · clear hx3
        have hb1 : decide ((x : Int) < 40960) = false := decide_eq_false hlt
        have HLT := Lib.hid hlt
        clear hlt
        go_wp2
        go_round
        case rel => exact ⟨_, by decide, rfl, by have := HLT.out; simp; omega⟩
        case measure => simp [intOf]
    · have hx3 : (40960 : Int) ≤ x := by omega
      clear hx2
      by_cases hlt : (x : Int) < 51882
      · have E : Hid ((degree x b : Int) = min (3 : Int) b) := by
          unfold Hid degree
          repeat' (first | rw [if_pos (by omega)] | rw [if_neg (by omega)])
          omega
        clear hx3
        have hb1 : decide ((x : Int) < 51882) = true := decide_eq_true hlt
        clear hlt
        by_cases hbk : (3 : Int) ≤ b
        all_goals
          go_wp2
          go_ret
          exact ⟨retI (by rw [E.out]; omega), rfl⟩
      · clear hx3
        have hb1 : decide ((x : Int) < 51882) = false := decide_eq_false hlt
        have HLT := Lib.hid hlt
        clear hlt
        go_wp2
        go_round
        case rel => exact ⟨_, by decide, rfl, by have := HLT.out; simp; omega⟩
        case measure => simp [intOf]
    · have hx3 : (51882 : Int) ≤ x := by omega
      clear hx2
      by_cases hlt : (x : Int) < 57344
      · have E : Hid ((degree x b : Int) = min (4 : Int) b) := by
          unfold Hid degree
          repeat' (first | rw [if_pos (by omega)] | rw [if_neg (by omega)])
          omega
        clear hx3
        have hb1 : decide ((x : Int) < 57344) = true := decide_eq_true hlt
        clear hlt
        by_cases hbk : (4 : Int) ≤ b
        all_goals
          go_wp2
          go_ret
          exact ⟨retI (by rw [E.out]; omega), rfl⟩
      · clear hx3
        have hb1 : decide ((x : Int) < 57344) = false := decide_eq_false hlt
        have HLT := Lib.hid hlt
        clear hlt
        go_wp2
        go_round
        case rel => exact ⟨_, by decide, rfl, by have := HLT.out; simp; omega⟩
        case measure => simp [intOf]
    · have hx3 : (57344 : Int) ≤ x := by omega
      clear hx2
      by_cases hlt : (x : Int) < 60621
      · have E : Hid ((degree x b : Int) = min (5 : Int) b) := by
          unfold Hid degree
          repeat' (first | rw [if_pos (by omega)] | rw [if_neg (by omega)])
          omega
        clear hx3
        have hb1 : decide ((x : Int) < 60621) = true := decide_eq_true hlt
        clear hlt
        by_cases hbk : (5 : Int) ≤ b
        all_goals
          go_wp2
          go_ret
          exact ⟨retI (by rw [E.out]; omega), rfl⟩
      · clear hx3
        have hb1 : decide ((x : Int) < 60621) = false := decide_eq_false hlt
        have HLT := Lib.hid hlt
        clear hlt
        go_wp2
        go_round
        case rel => exact ⟨_, by decide, rfl, by have := HLT.out; simp; omega⟩
        case measure => simp [intOf]
    · have hx3 : (60621 : Int) ≤ x := by simp at hx2 ⊢; omega
      clear hx2
      have E : Hid ((degree x b : Int) = max 1 ((b : Int) / 2)) := by
        unfold Hid degree
        repeat' (rw [if_neg (by omega)])
        omega
      clear hx3
      go_wp2
      all_goals
        go_ret
        exact ⟨retI (by rw [E.out]; omega), rfl⟩

set_option maxHeartbeats 400000 in
theorem pickOf_err (w : World) (id b : Int) (h : ¬ (0 ≤ id ∧ id ≤ 9999 ∧ 1 ≤ b ∧ b ≤ 24)) :
    Calls Try.prog 54 #[.int .i64 id, .int .i64 b] w fun e w' => e = .returned (.tuple #[.slice none 0 0, .int .i64 3]) ∧ w = w' := by
  by_cases h1 : id < 0
  · go_enter Try.func54, Try.ntmps54
    go_wp2
    go_ret2
    exact ⟨rfl, rfl⟩
  · by_cases h2 : 9999 < id
    · go_enter Try.func54, Try.ntmps54
      go_wp2
      go_ret2
      exact ⟨rfl, rfl⟩
    · by_cases h3 : b < 1
      · go_enter Try.func54, Try.ntmps54
        go_wp2
        go_ret2
        exact ⟨rfl, rfl⟩
      · have h4 : 24 < b := by omega
        go_enter Try.func54, Try.ntmps54
        go_wp2
        go_ret2
        exact ⟨rfl, rfl⟩

set_option maxHeartbeats 400000 in
theorem pickOf_first (w : World) (id b : Nat) (h1 : id < b) (h2 : b ≤ 24) :
    Calls Try.prog 54 #[.int .i64 id, .int .i64 b] w fun e w' => e = .returned (.tuple #[.slice (some ⟨w.heap.size, 0, none⟩) b b, .int .i64 0]) ∧ Sl 1 eBool w' (LT w'.heap.size) (some ⟨w.heap.size, 0, none⟩) b (pickHas id b) ∧ Fr w w' := by
  have hmk := run_make_ca (P := Try.prog) Value.bool false 100 4 1 Try.underlying100 infoBool rfl .i64 .i64 b (by omega) (by omega)
  have E : Hid (pickHas id b = (List.replicate b false).set id true) := by unfold Hid pickHas; rw [if_pos h1]; rfl
  have HA : Hid ((w.alloc (.cells (ca Value.bool (List.replicate b false)) 4)).heap[w.heap.size]? = some (.cells (ca Value.bool (List.replicate b false)) 4 (0, 0))) := heap_new rfl
  have hc : (w.alloc (.cells (ca Value.bool (List.replicate b false)) 4)).cell? ⟨w.heap.size, id, none⟩ = some (.bool false) := ca_cell HA.out (by simp [List.getElem?_replicate, h1])
  have hf : (w.alloc (.cells (ca Value.bool (List.replicate b false)) 4)).frozen? ⟨w.heap.size, id, none⟩ = false := ca_free HA.out
  go_enter Try.func54, Try.ntmps54
  go_wp2
  go_ret2
  refine ⟨rfl, ?_, ?_⟩
  · rw [E.out]
    have e : (ca Value.bool (List.replicate b false)).setIfInBounds id (.bool true) = ca Value.bool ((List.replicate b false).set id true) := by simp only [ca, List.map_set, List.setIfInBounds_toArray]
    rw [e]
    exact ca_bools (heap_new rfl) (ca_lt (heap_new (w := w) rfl)) (by simp)
  · exact frA (Below.refl _ _) _

set_option maxHeartbeats 1000000 in
theorem pickOf_more (w : World) (id b : Nat) (h1 : b ≤ id) (h2 : b ≤ 24) (h3 : 1 ≤ b) (h4 : id ≤ 9999) :
    Calls Try.prog 54 #[.int .i64 id, .int .i64 b] w fun e w' => e = .returned (.tuple #[.slice (some ⟨w.heap.size, 0, none⟩) b b, .int .i64 0]) ∧ Sl 1 eBool w' (LT w'.heap.size) (some ⟨w.heap.size, 0, none⟩) b (pickHas id b) ∧ Fr w w' := by
  have hmk := run_make_ca (P := Try.prog) Value.bool false 100 4 1 Try.underlying100 infoBool rfl .i64 .i64 b (by omega) (by omega)
  have E : Hid (pickHas id b = pickLoop b fuel (nxt id) (degree (nxt id) b) (List.replicate b false)) := by unfold Hid pickHas; rw [if_neg (by omega)]; rfl
  have hd := degree_bd (nxt id) b h3
  have hlt0 : decide ((id : Int) < (b : Int)) = false := by simp; omega
  have hx0 : nxt id < 65536 := nxt_lt id
  have hen : Hid (Enough b fuel (nxt id) (degree (nxt id) b) (List.replicate b false)) := enough_new h2 (by simp) (by have := cnt_noHas b; unfold noHas at this; omega) (by unfold fuel; omega)
  obtain ⟨x0, hx⟩ : ∃ x0, x0 = nxt id := ⟨_, rfl⟩
  obtain ⟨d0, hdd⟩ : ∃ d0, d0 = degree (nxt id) b := ⟨_, rfl⟩
  obtain ⟨hd1, hd2⟩ := hd
  rw [← hdd] at hd1 hd2 hen E
  rw [← hx] at hx0 hen E
  rw [← hx] at hdd
  have NX : ∀ W : World, _ := fun W => next_any W id (by omega)
  have DG : ∀ W : World, _ := fun W => degree_any W x0 b h3 h2
  rw [← hx] at NX
  rw [← hdd] at DG
  have HNX := Lib.hid NX
  have HDG := Lib.hid DG
  clear NX DG hx hdd
  go_enter Try.func54, Try.ntmps54
  go_wp2_with fail
  refine (HNX.out _).mono ?_
  rintro e w' ⟨rfl, rfl⟩
  go_wp2_with fail
  refine (HDG.out _).mono ?_
  rintro e w' ⟨rfl, rfl⟩
  go_wp2_with fail
  go_loopg [7, 8] fuel (fun g x m wr => ∃ (xx mm : Nat) (has : List Bool), x = .int .i64 xx ∧ m = .int .i64 mm ∧ mm ≤ 24 ∧ Hid (xx < 65536) ∧ Hid (Enough b g xx mm has) ∧ wr.heap[w.heap.size]? = some (.cells (ca Value.bool has) 4 (0, 0)) ∧ Hid (pickHas id b = pickLoop b g xx mm has) ∧ Below w.heap.size w wr)
  case atStart => exact ⟨x0, d0, _, rfl, rfl, by omega, hx0, hen, heap_new rfl, E, (Below.refl _ _).alloc (Nat.le_refl _) _⟩
  case round =>
    obtain ⟨xx, mm, has, rfl, rfl, hmm, HX, HE, HA, HP, HB⟩ := hrel
    by_cases h0 : mm = 0
    · have HR : Hid (has = pickHas id b) := by
        rw [Hid, HP.out, h0]
        cases gk with
        | zero => rfl
        | succ n => rw [pickLoop, if_pos rfl]
      have HL : Hid (has.length = b) := HE.out.len
      subst h0
      clear HP HE
      go_wp2_with fail
      go_ret2
      rw [← HR.out]
      exact ⟨rfl, ca_bools HA (ca_lt HA) HL.out, HB⟩
    · obtain ⟨hg, hs1, hs2⟩ := enough_step h2 (by omega) HE.out
      have hm0 : (0 : Int) < mm := by omega
      obtain ⟨x', hx'⟩ : ∃ x', x' = nxt xx := ⟨_, rfl⟩
      obtain ⟨k, hk⟩ : ∃ k, k = x' / 7 % b := ⟨_, rfl⟩
      have hkb : k < b := by rw [hk]; exact Nat.mod_lt _ (by omega)
      have NX : ∀ W : World, _ := fun W => next_any W xx HX.out
      have hx1 : Hid (x' < 65536) := by rw [hx']; exact nxt_lt xx
      rw [← hx', ← hk] at hs1 hs2
      rw [← hx'] at NX
      have HP' : Hid (pickHas id b = if has.getD k false then pickLoop b (gk - 1) x' mm has else pickLoop b (gk - 1) x' (mm - 1) (has.set k true)) := by
        rw [Hid, HP.out]
        conv => lhs; rw [show gk = (gk - 1) + 1 from by omega, pickLoop, if_neg h0, ← hx', ← hk]
      have hlen := HE.out.len
      have hw7 : wrap64 ((x' : Int) / 7) = (x' : Int) / 7 := IntWalk.wrap64_in _ (by have := hx1.out; omega)
      have hke : ((x' : Int) / 7).tmod (b : Int) = (k : Int) := by rw [Int.tmod_eq_emod_of_nonneg (by omega), hk]; simp
      have HNX := Lib.hid NX
      have hks : has[k]? = some (has.getD k false) := by rw [List.getD_eq_getElem?_getD, List.getElem?_eq_getElem (by omega)]; rfl
      have hc : wr.cell? ⟨w.heap.size, k, none⟩ = some (.bool (has.getD k false)) := ca_cell HA hks
      have hf : wr.frozen? ⟨w.heap.size, k, none⟩ = false := ca_free HA
      have hb0 : ((b : Int) == 0) = false := by rw [beq_eq_false_iff_ne]; omega
      have hx7 : 0 ≤ (x' : Int) / 7 := by omega
      clear HP HE NX hx' hk hlen hks
      by_cases hh : has.getD k false = true
      · have HE' := Lib.hid (hs1 hh)
        rw [hh] at hc
        have HR : Hid (pickHas id b = pickLoop b (gk - 1) x' mm has) := by rw [Hid, HP'.out, if_pos hh]
        clear hs1 hs2 hh HP'
        go_wp2_with fail
        refine (HNX.out _).mono ?_
        rintro e w' ⟨rfl, rfl⟩
        go_wp2_with fail
        go_roundg (gk - 1)
        case measure => omega
        case rel => exact ⟨x', mm, has, rfl, rfl, by omega, hx1, HE', HA, HR, HB⟩
      · have hh' : has.getD k false = false := by simpa using hh
        have HE' := Lib.hid (hs2 hh')
        rw [hh'] at hc
        have HR : Hid (pickHas id b = pickLoop b (gk - 1) x' (mm - 1) (has.set k true)) := by rw [Hid, HP'.out, if_neg hh]
        have HA' : Hid ((wr.setCell ⟨w.heap.size, k, none⟩ (.bool true)).heap[w.heap.size]? = some (.cells (ca Value.bool (has.set k true)) 4 (0, 0))) := ca_set HA
        clear hs1 hs2 hh HP' hh'
        go_wp2_with fail
        refine (HNX.out _).mono ?_
        rintro e w' ⟨rfl, rfl⟩
        go_wp2_with fail
        go_roundg (gk - 1)
        case measure => omega
        case rel => exact ⟨x', mm - 1, has.set k true, rfl, by go_num, by omega, hx1, HE', HA'.out, HR, HB.setCell (Nat.le_refl _) _⟩

/-- What pick.Of answers. -/
def pickOf (id b : Int) : List Bool × Int := if 0 ≤ id ∧ id ≤ 9999 ∧ 1 ≤ b ∧ b ≤ 24 then (pickHas id.toNat b.toNat, 0) else ([], 3)
theorem pickOf_any (w : World) (id b : Int) :
    Calls Try.prog 54 #[.int .i64 id, .int .i64 b] w fun e w' => ∃ A n c, e = .returned (.tuple #[.slice A n c, .int .i64 (pickOf id b).2]) ∧ n ≤ 24 ∧ ((pickOf id b).2 = 0 → (n : Int) = b) ∧ Sl 1 eBool w' (LT w'.heap.size) A n (pickOf id b).1 ∧ Fr w w' := by
  by_cases h : 0 ≤ id ∧ id ≤ 9999 ∧ 1 ≤ b ∧ b ≤ 24
  · have E : pickOf id b = (pickHas id.toNat b.toNat, 0) := if_pos h
    rw [E]
    obtain ⟨i, rfl⟩ := Int.eq_ofNat_of_zero_le h.1
    obtain ⟨m, rfl⟩ := Int.eq_ofNat_of_zero_le (show 0 ≤ b by omega)
    by_cases hlt : i < m
    · refine (pickOf_first w i m hlt (by omega)).mono ?_
      rintro e w' ⟨rfl, hs, hf⟩
      exact ⟨_, _, _, rfl, by omega, fun _ => rfl, hs, hf⟩
    · refine (pickOf_more w i m (by omega) (by omega) (by omega) (by omega)).mono ?_
      rintro e w' ⟨rfl, hs, hf⟩
      exact ⟨_, _, _, rfl, by omega, fun _ => rfl, hs, hf⟩
  · have E : pickOf id b = ([], 3) := if_neg h
    rw [E]
    refine (pickOf_err w id b h).mono ?_
    rintro e w' ⟨rfl, rfl⟩
    exact ⟨none, 0, 0, rfl, by omega, fun h => absurd h (by decide), Sl.nil, Below.refl _ _⟩

theorem cnt_take {l : List Bool} {k : Nat} {b : Bool} (h : l[k]? = some b) : cnt (l.take (k + 1)) = cnt (l.take k) + if b then 1 else 0 := by
  rw [take_snoc' h]
  cases b <;> simp [cnt]
theorem cnt_le (l : List Bool) : cnt l ≤ l.length := List.countP_le_length

end Go.Proofs.Ytojoodmnmhcojaa
