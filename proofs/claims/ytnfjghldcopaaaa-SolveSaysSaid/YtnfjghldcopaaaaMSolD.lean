/- 'PickSays', walked. No condition. -/
import Derived.Test.YtnfjghldcopaaaaPickP
import Derived.Shelf.Sort.Plain
import Derived.Test.YtnfjghldcopaaaaProg
import Derived.Test.YtnfjghldcopaaaaPick
import Derived.Test.YtnfjghldcopaaaaIdx
import Derived.Test.YtnfjghldcopaaaaSum
import Derived.Sort.OwnSortedInts
import Derived.Deep.CutBlock
import Derived.Deep.DeepCutAuto
import Derived.Deep.Cut
import Derived.Test.YtnfjghldcopaaaaEq
set_option linter.unusedSimpArgs false
set_option linter.unusedVariables false
namespace Go.Proofs.Ytnfjghldcopaaaa

/-- The numbers that are in, rising. -/
def selIdx (l : List Bool) : List Int := ((List.range l.length).filter fun k => l.getD k false).map fun k : Nat => (k : Int)
/-- The same numbers, in some order. -/
structure Sel (has : List Bool) (ls : List Int) : Prop where
  nd : ls.Nodup
  bd : ∀ x ∈ ls, ∃ k : Nat, x = k ∧ k < has.length
  iff : ∀ k : Nat, k < has.length → (has.getD k false = true ↔ (k : Int) ∈ ls)
theorem Sel.new (b : Nat) : Sel (noHas b) [] := ⟨List.nodup_nil, fun x hx => (List.not_mem_nil hx).elim, fun k hk => by
  have : (noHas b).getD k false = false := by
    have hk' : k < b := by simpa [noHas] using hk
    simp [noHas, List.getD_eq_getElem?_getD, List.getElem?_replicate, hk']
  rw [this]; simp⟩
theorem Sel.add {has : List Bool} {ls : List Int} {k : Nat} (h : Sel has ls) (hk : k < has.length) (hf : has.getD k false = false) : Sel (has.set k true) (ls ++ [(k : Int)]) := by
  have hn : (k : Int) ∉ ls := fun e => by
    have := (h.iff k hk).2 e
    rw [hf] at this; cases this
  refine ⟨?_, ?_, ?_⟩
  · rw [List.nodup_append]
    exact ⟨h.nd, by simp, fun a ha b hb e => by simp at hb; subst hb; subst e; exact hn ha⟩
  · intro x hx
    rcases List.mem_append.1 hx with h1 | h1
    · obtain ⟨j, e, hj⟩ := h.bd x h1
      exact ⟨j, e, by simpa using hj⟩
    · exact ⟨k, by simpa using h1, by simpa using hk⟩
  · intro j hj
    have hj' : j < has.length := by simpa using hj
    by_cases e : j = k
    · subst e
      simp [List.getD_eq_getElem?_getD, hj']
    · have h1 := h.iff j hj'
      rw [List.getD_eq_getElem?_getD, List.getElem?_set_ne (fun e' => e e'.symm), ← List.getD_eq_getElem?_getD, h1]
      simp only [List.mem_append, List.mem_singleton]
      constructor
      · exact .inl
      · rintro (h | h)
        · exact h
        · exact absurd (by omega) e
theorem Sel.idx (has : List Bool) : Sel has (selIdx has) := by
  refine ⟨?_, ?_, ?_⟩
  · unfold selIdx
    refine List.Pairwise.map (R := fun a b : Nat => a ≠ b) _ (fun a b h e => h (by omega)) ?_
    exact List.Pairwise.filter _ List.nodup_range
  · intro x hx
    obtain ⟨k, hk, rfl⟩ := List.mem_map.1 hx
    exact ⟨k, rfl, List.mem_range.1 (List.mem_filter.1 hk).1⟩
  · intro k hk
    unfold selIdx
    constructor
    · intro h
      exact List.mem_map.2 ⟨k, List.mem_filter.2 ⟨List.mem_range.2 hk, h⟩, rfl⟩
    · intro h
      obtain ⟨j, hj, e⟩ := List.mem_map.1 h
      obtain rfl : j = k := by omega
      exact (List.mem_filter.1 hj).2
theorem selIdx_sorted (has : List Bool) : (selIdx has).Pairwise fun x y => decide (x ≤ y) = true := by
  unfold selIdx
  refine List.Pairwise.map (R := fun a b : Nat => a < b) _ (fun a b (h : a < b) => by simp; omega) ?_
  exact List.pairwise_lt_range.filter _
theorem Sel.perm {has : List Bool} {l m : List Int} (h : Sel has l) (k : Sel has m) : l.Perm m := by
  rw [List.perm_ext_iff_of_nodup h.nd k.nd]
  intro a
  constructor
  · intro ha
    obtain ⟨j, rfl, hj⟩ := h.bd a ha
    exact (k.iff j hj).1 ((h.iff j hj).2 ha)
  · intro ha
    obtain ⟨j, rfl, hj⟩ := k.bd a ha
    exact (h.iff j hj).1 ((k.iff j hj).2 ha)
theorem Sel.sorted {has : List Bool} {ls : List Int} (h : Sel has ls) : ls.mergeSort (fun x y => decide (x ≤ y)) = selIdx has := by
  refine List.Perm.eq_of_pairwise (le := fun x y => decide (x ≤ y) = true) (fun a b _ _ h1 h2 => ?_) ?_ (selIdx_sorted has) ((List.mergeSort_perm _ _).trans (h.perm (Sel.idx has)))
  · simp at h1 h2; omega
  · exact List.pairwise_mergeSort (fun a b c h1 h2 => by simp at h1 h2 ⊢; omega) (fun a b => by simp; omega) ls
theorem selIdx_one {b id : Nat} (h : id < b) : selIdx ((noHas b).set id true) = [(id : Int)] := by
  have := (Sel.new b).add (k := id) (by simp [noHas]; exact h) (by simp [noHas, List.getD_eq_getElem?_getD, List.getElem?_replicate, h])
  have h2 := this.sorted
  rw [← h2]; simp
theorem Sel.length {has : List Bool} {ls : List Int} (h : Sel has ls) : ls.length ≤ has.length := by
  rw [(h.perm (Sel.idx has)).length_eq]
  unfold selIdx
  rw [List.length_map]
  exact Nat.le_trans (List.length_filter_le _ _) (by simp)
/-- What the reference picks. -/
def pickedR (id b : Int) : List Int × Int := if 0 ≤ id ∧ id ≤ 9999 ∧ 1 ≤ b ∧ b ≤ 24 then (selIdx (pickHas id.toNat b.toNat), 0) else ([], 3)
end Go.Proofs.Ytnfjghldcopaaaa
namespace Go.Proofs
open Go.Shelf
def Try.lays189_ren : Go.Shelf.Ren := ⟨fun | 189 => 71 | 125 => 93 | 257 => 92 | 128 => 108 | 129 => 109 | 294 => 99 | 295 => 100 | 296 => 101 | 297 => 102 | 298 => 103 | 299 => 104 | 216 => 105 | 300 => 106 | 301 => 107 | 328 => 112 | 329 => 113 | 330 => 114 | 331 => 115 | 332 => 116 | 215 => 117 | 343 => 118 | n => n, fun | 28 => 48 | 3 => 3 | 46 => 122 | 0 => 0 | 51 => 136 | 53 => 138 | 4 => 4 | 183 => 129 | 182 => 128 | 131 => 133 | 5 => 5 | 9 => 9 | 218 => 141 | 222 => 145 | 228 => 147 | 229 => 148 | n => n, fun | n => n⟩
theorem Try.lays189 : Go.Proofs.Lays.n189 Try.prog Try.lays189_ren := {
  mixed := by kernel_rfl
  f125 := Try.func93.trans (congrArg some (by kernel_rfl))
  f128 := Try.func108.trans (congrArg some (by kernel_rfl))
  f129 := Try.func109.trans (congrArg some (by kernel_rfl))
  f189 := Try.func71.trans (congrArg some (by kernel_rfl))
  f215 := Try.func117.trans (congrArg some (by kernel_rfl))
  f216 := Try.func105.trans (congrArg some (by kernel_rfl))
  f257 := Try.func92.trans (congrArg some (by kernel_rfl))
  f294 := Try.func99.trans (congrArg some (by kernel_rfl))
  f295 := Try.func100.trans (congrArg some (by kernel_rfl))
  f296 := Try.func101.trans (congrArg some (by kernel_rfl))
  f297 := Try.func102.trans (congrArg some (by kernel_rfl))
  f298 := Try.func103.trans (congrArg some (by kernel_rfl))
  f299 := Try.func104.trans (congrArg some (by kernel_rfl))
  f300 := Try.func106.trans (congrArg some (by kernel_rfl))
  f301 := Try.func107.trans (congrArg some (by kernel_rfl))
  f328 := Try.func112.trans (congrArg some (by kernel_rfl))
  f329 := Try.func113.trans (congrArg some (by kernel_rfl))
  f330 := Try.func114.trans (congrArg some (by kernel_rfl))
  f331 := Try.func115.trans (congrArg some (by kernel_rfl))
  f332 := Try.func116.trans (congrArg some (by kernel_rfl))
  f343 := Try.func118.trans (congrArg some (by kernel_rfl))
  t0 := Try.underlying0
  a0 := Try.isAgg0
  z0 := Try.sizeOf0
  v0 := Try.zeroValue0
  t3 := Try.underlying3
  a3 := Try.isAgg3
  z3 := Try.sizeOf3
  v3 := Try.zeroValue3
  t4 := Try.underlying4
  a4 := Try.isAgg4
  z4 := Try.sizeOf4
  v4 := Try.zeroValue4
  t5 := Try.underlying5
  a5 := Try.isAgg5
  z5 := Try.sizeOf5
  v5 := Try.zeroValue5
  t9 := Try.underlying9
  a9 := Try.isAgg9
  z9 := Try.sizeOf9
  v9 := Try.zeroValue9
  t28 := Try.underlying48
  a28 := Try.isAgg48
  z28 := Try.sizeOf48
  v28 := Try.zeroValue48
  t46 := Try.underlying122
  a46 := Try.isAgg122
  z46 := Try.sizeOf122
  v46 := Try.zeroValue122
  t51 := Try.underlying136
  a51 := Try.isAgg136
  z51 := Try.sizeOf136
  v51 := Try.zeroValue136
  t53 := Try.underlying138
  a53 := Try.isAgg138
  z53 := Try.sizeOf138
  v53 := Try.zeroValue138
  t131 := Try.underlying133
  a131 := Try.isAgg133
  z131 := Try.sizeOf133
  v131 := Try.zeroValue133
  t182 := Try.underlying128
  a182 := Try.isAgg128
  z182 := Try.sizeOf128
  v182 := Try.zeroValue128
  t183 := Try.underlying129
  a183 := Try.isAgg129
  z183 := Try.sizeOf129
  v183 := Try.zeroValue129
  t218 := Try.underlying141
  a218 := Try.isAgg141
  z218 := Try.sizeOf141
  v218 := Try.zeroValue141
  t222 := Try.underlying145
  a222 := Try.isAgg145
  z222 := Try.sizeOf145
  v222 := Try.zeroValue145
  t228 := Try.underlying147
  a228 := Try.isAgg147
  z228 := Try.sizeOf147
  v228 := Try.zeroValue147
  t229 := Try.underlying148
  a229 := Try.isAgg148
  z229 := Try.sizeOf148
  v229 := Try.zeroValue148 }
open Go.Sort Go.RowKit in
theorem Try.slices_Sort_int (blk off cap : Nat) (zs : List Int) (w : World) (hH : Holds (Value.int .i64) w blk off zs.toArray) (hblk : blk < w.heap.size) (hsz : zs.length < 4611686018427387904) :
    Calls Try.prog 71 #[.slice (some ⟨blk, off, none⟩) zs.length cap] w fun e w' =>
      e = .returned (.tuple #[]) ∧ ∃ n os, w' = grow (putRow (Value.int .i64) (Sort.ahead w n) blk off (zs.mergeSort fun x y => decide (x ≤ y)).toArray) os := Any.slices_Sort_int Try.lays189 blk off cap zs w hH hblk hsz
end Go.Proofs
namespace Go.Proofs.Ytnfjghldcopaaaa
open Go.RowKit
attribute [local irreducible] wpList

theorem infoInt : (Try.prog.info? 3).map (fun i => (i.zero, i.size, i.bytes)) = some (some (.int .i64 0), 1, 8) := by kernel_rfl

theorem own_ints {w : World} {base : Nat} {e : TypeId} {v : Value} {ls : List Int} (h : Own 1 eInt w base e v ls) (hn : 0 < ls.length) :
    ∃ (g cap : Nat) (cur : Array Value), v = .slice (some ⟨g, 0, none⟩) ls.length cap ∧ base ≤ g ∧ w.heap[g]? = some (.cells cur e (0, 0)) ∧ ls.length ≤ cap ∧ cap ≤ maxLen ∧ cur.size = cap * 1 ∧ cur.toList.take ls.length = ls.map (Value.int .i64) ∧ ∀ x ∈ ls, wfI x := by
  obtain ⟨cs, ho, hr⟩ := h
  have hlen := ho.1
  rcases ho.2 with ⟨rfl, h0⟩ | ⟨g, cap, cur, rfl, hbg, hg, hnc, hcm, hcs, htake⟩
  · omega
  · refine ⟨g, cap, cur, rfl, hbg, hg, hnc, hcm, hcs, ?_, fun x hx => ?_⟩
    · rw [Nat.mul_one] at htake hlen
      rw [htake]
      apply List.ext_getElem (by simp [hlen])
      intro i h1 h2
      have := (hr i ls[i] (by rw [List.getElem?_eq_getElem])).1
      simp only [Nat.mul_one, Nat.add_zero] at this
      rw [List.getElem?_eq_getElem h1] at this
      simpa using this
    · obtain ⟨i, hi, rfl⟩ := List.mem_iff_getElem.1 hx
      exact (hr i ls[i] (by rw [List.getElem?_eq_getElem])).2
theorem sl_ints {w : World} {base g cap : Nat} {e : TypeId} {ts : List Int} (h : w.ownsRow base e 1 (.slice (some ⟨g, 0, none⟩) ts.length cap) ts.length (ts.map (Value.int .i64))) (hw : ∀ x ∈ ts, wfI x) : Sl 1 eInt w (LT w.heap.size) (some ⟨g, 0, none⟩) ts.length ts := by
  have ho : Own 1 eInt w base e (.slice (some ⟨g, 0, none⟩) ts.length cap) ts := ⟨_, h, fun i x hx => ⟨by simp [hx], hw x (List.mem_of_getElem? hx)⟩⟩
  obtain ⟨A, c, e1, _, hs⟩ := ho.slC sInt (by decide)
  injection e1 with e1
  subst e1
  exact hs
theorem selIdx_wf {l : List Bool} (h : l.length ≤ 24) : ∀ x ∈ selIdx l, wfI x := by
  intro x hx
  obtain ⟨k, rfl, hk⟩ := (Sel.idx l).bd x hx
  exact wfI.mk (by omega)
set_option maxRecDepth 100000 in
set_option maxHeartbeats 1000000 in
theorem refPicked_more (w : World) (id b : Nat) (h1 : b ≤ id) (h2 : b ≤ 24) (h3 : 1 ≤ b) (h4 : id ≤ 9999) :
    Calls Try.prog 30 #[.int .i64 id, .int .i64 b] w fun e w' => ∃ A n c, e = .returned (.tuple #[.slice A n c, .int .i64 0]) ∧ (n ≤ c ∧ c ≤ maxLen) ∧ Sl 1 eInt w' (LT w'.heap.size) A n (selIdx (pickHas id b)) ∧ Fr w w' := by
  have hlt0 : decide ((id : Int) < (b : Int)) = false := by simp; omega
  have hlt1 : decide (id < b) = false := by simp; omega
  have r1 : inR id 0 9999 = true := inR_t (by omega)
  have r2 : inR b 1 24 = true := inR_t (by omega)
  obtain ⟨x, hx⟩ : ∃ x, x = nxt id := ⟨_, rfl⟩
  have hxi : ((id : Int) * 1109 + 12345) % 65536 = (x : Int) := by rw [hx]; unfold nxt; omega
  have hxl : x < 65536 := by rw [hx]; exact nxt_lt id
  have hE : Hid (pickHas id b = pickLoop b fuel x (degree x b) (noHas b)) := by rw [Hid, hx]; unfold pickHas; rw [if_neg (by omega)]
  have hd := degree_bd x b h3
  have hen : Hid (Enough b fuel x (degree x b) (noHas b)) := enough_new h2 (by simp [noHas]) (by rw [cnt_noHas]; omega) (by unfold fuel; omega)
  have HX := Lib.hid hxi
  clear hx hxi
  go_enter Try.func30, Try.ntmps30
  go_upto_block 0 with (go_at_call 61; refine (in_any _ _ _ _).mono ?_; rintro e w' ⟨rfl, rfl⟩)
  rw [HX.out]
  obtain ⟨W1, hW1⟩ : ∃ W1, W1 = w.alloc (.cells #[.int .i64 8192, .int .i64 40960, .int .i64 51882, .int .i64 57344, .int .i64 60621] 3) := ⟨_, rfl⟩
  have HF1 : Hid (Fr w W1) := by rw [hW1]; exact frAlloc _ _
  have hb1 : W1.heap[w.heap.size]? = some (.cells #[.int .i64 8192, .int .i64 40960, .int .i64 51882, .int .i64 57344, .int .i64 60621] 3 (0, 0)) := by rw [hW1]; exact heap_new rfl
  have hc0 : W1.cell? ⟨w.heap.size, 0, none⟩ = some (.int .i64 8192) := cell_of_heap hb1
  have hc1 : W1.cell? ⟨w.heap.size, 1, none⟩ = some (.int .i64 40960) := cell_of_heap hb1
  have hc2 : W1.cell? ⟨w.heap.size, 2, none⟩ = some (.int .i64 51882) := cell_of_heap hb1
  have hc3 : W1.cell? ⟨w.heap.size, 3, none⟩ = some (.int .i64 57344) := cell_of_heap hb1
  have hc4 : W1.cell? ⟨w.heap.size, 4, none⟩ = some (.int .i64 60621) := cell_of_heap hb1
  rw [← hW1]
  clear hW1 hb1
  go_cut [7] (fun s7 wx => s7 = .int .i64 (degree x b : Nat) ∧ W1 = wx)
  case first =>
    go_wp2_with fail
    go_loop [7, 34] (fun m i => ∃ k : Nat, k ≤ 5 ∧ i = .int .i64 k ∧ m = .int .i64 (max 1 ((b : Int) / 2)) ∧ (if k = 0 then 0 else if k = 1 then 8192 else if k = 2 then 40960 else if k = 3 then 51882 else if k = 4 then 57344 else 60621) ≤ (x : Int)) (fun _ i => 5 - (intOf i).toNat)
    case atStart => exact ⟨0, Nat.zero_le _, rfl, rfl, by simp⟩
    case round =>
      obtain ⟨k, hk, rfl, rfl, hx2⟩ := hrel
      rcases (show k = 0 ∨ k = 1 ∨ k = 2 ∨ k = 3 ∨ k = 4 ∨ k = 5 from by omega) with rfl | rfl | rfl | rfl | rfl | rfl
      · have hx3 : (0 : Int) ≤ x := by omega
        clear hx2
        by_cases hlt : (x : Int) < 8192
        · have E : Hid ((degree x b : Int) = min (1 : Int) b) := by
            unfold Hid degree
            repeat' (first | rw [if_pos (by omega)] | rw [if_neg (by omega)])
            omega
          clear hx3
          have hb1 : decide ((x : Int) < 8192) = true := decide_eq_true hlt
          clear hlt
          by_cases hbk : (1 : Int) ≤ b
          all_goals
            go_wp2_with fail
            go_meet
            exact ⟨by rw [E.out] <;> congr 1 <;> omega, rfl⟩
        · clear hx3
          have hb1 : decide ((x : Int) < 8192) = false := decide_eq_false hlt
          have HLT := Lib.hid hlt
          clear hlt
          go_wp2_with fail
          go_round
          case rel => exact ⟨_, by decide, rfl, rfl, by have := HLT.out; simp; omega⟩
          case measure => simp [intOf]
      · have hx3 : (8192 : Int) ≤ x := by omega
        clear hx2
        by_cases hlt : (x : Int) < 40960
        · have E : Hid ((degree x b : Int) = min (2 : Int) b) := by
            unfold Hid degree
            repeat' (first | rw [if_pos (by omega)] | rw [if_neg (by omega)])
            omega
          clear hx3
          have hb1 : decide ((x : Int) < 40960) = true := decide_eq_true hlt
          clear hlt
          by_cases hbk : (2 : Int) ≤ b
          all_goals
            go_wp2_with fail
            go_meet
            exact ⟨by rw [E.out] <;> congr 1 <;> omega, rfl⟩
        · clear hx3
          have hb1 : decide ((x : Int) < 40960) = false := decide_eq_false hlt
          have HLT := Lib.hid hlt
          clear hlt
          go_wp2_with fail
          go_round
          case rel => exact ⟨_, by decide, rfl, rfl, by have := HLT.out; simp; omega⟩
          case measure => simp [intOf]
      · have hx3 : (40960 : Int) ≤ x := by omega
        clear hx2
        by_cases hlt : (x : Int) < 51882
        · have E : Hid ((degree x b : Int) = min (3 : Int) b) := by
            unfold Hid degree
            repeat' (first | rw [if_pos (by omega)] | rw [if_neg (by omega)])
            omega
          clear hx3
          have hb1 : decide ((x : Int) < 51882) = true := decide_eq_true hlt
          clear hlt
          by_cases hbk : (3 : Int) ≤ b
          all_goals
            go_wp2_with fail
            go_meet
            exact ⟨by rw [E.out] <;> congr 1 <;> omega, rfl⟩
        · clear hx3
          have hb1 : decide ((x : Int) < 51882) = false := decide_eq_false hlt
          have HLT := Lib.hid hlt
          clear hlt
          go_wp2_with fail
          go_round
          case rel => exact ⟨_, by decide, rfl, rfl, by have := HLT.out; simp; omega⟩
          case measure => simp [intOf]
      · have hx3 : (51882 : Int) ≤ x := by omega
        clear hx2
        by_cases hlt : (x : Int) < 57344
        · have E : Hid ((degree x b : Int) = min (4 : Int) b) := by
            unfold Hid degree
            repeat' (first | rw [if_pos (by omega)] | rw [if_neg (by omega)])
            omega
          clear hx3
          have hb1 : decide ((x : Int) < 57344) = true := decide_eq_true hlt
          clear hlt
          by_cases hbk : (4 : Int) ≤ b
          all_goals
            go_wp2_with fail
            go_meet
            exact ⟨by rw [E.out] <;> congr 1 <;> omega, rfl⟩
        · clear hx3
          have hb1 : decide ((x : Int) < 57344) = false := decide_eq_false hlt
          have HLT := Lib.hid hlt
          clear hlt
          go_wp2_with fail
          go_round
          case rel => exact ⟨_, by decide, rfl, rfl, by have := HLT.out; simp; omega⟩
          case measure => simp [intOf]
      · have hx3 : (57344 : Int) ≤ x := by omega
        clear hx2
        by_cases hlt : (x : Int) < 60621
        · have E : Hid ((degree x b : Int) = min (5 : Int) b) := by
            unfold Hid degree
            repeat' (first | rw [if_pos (by omega)] | rw [if_neg (by omega)])
            omega
          clear hx3
          have hb1 : decide ((x : Int) < 60621) = true := decide_eq_true hlt
          clear hlt
          by_cases hbk : (5 : Int) ≤ b
          all_goals
            go_wp2_with fail
            go_meet
            exact ⟨by rw [E.out] <;> congr 1 <;> omega, rfl⟩
        · clear hx3
          have hb1 : decide ((x : Int) < 60621) = false := decide_eq_false hlt
          have HLT := Lib.hid hlt
          clear hlt
          go_wp2_with fail
          go_round
          case rel => exact ⟨_, by decide, rfl, rfl, by have := HLT.out; simp; omega⟩
          case measure => simp [intOf]
      · have hx3 : (60621 : Int) ≤ x := by simp at hx2 ⊢; omega
        clear hx2
        have E : Hid ((degree x b : Int) = max 1 ((b : Int) / 2)) := by
          unfold Hid degree
          repeat' (rw [if_neg (by omega)])
          omega
        clear hx3
        go_wp2_with fail
        all_goals
          go_meet
          exact ⟨by rw [E.out], rfl⟩
  case rest =>
    obtain ⟨rfl, rfl⟩ := hcut
    obtain ⟨D, hD⟩ : ∃ D, D = degree x b := ⟨_, rfl⟩
    rw [← hD] at hd hen hE ⊢
    obtain ⟨hd1, hd2⟩ := hd
    clear hc0 hc1 hc2 hc3 hc4 hD HX
    go_wp2_with fail
    go_loopg [6, 10] fuel (fun g s6 s10 wr => ∃ (xx mm : Nat) (has : List Bool) (ls : List Int), s6 = .int .i64 xx ∧ mm + ls.length = D ∧ Hid (xx < 65536) ∧ Hid (Enough b g xx mm has) ∧ Hid (Sel has ls) ∧ Hid (Own 1 eInt wr w.heap.size 3 s10 ls) ∧ Hid (pickHas id b = pickLoop b g xx mm has) ∧ Hid (Below w.heap.size w wr))
    case atStart => exact ⟨x, D, noHas b, [], rfl, by simp, hxl, hen, Sel.new b, Own.nil, hE, HF1.out⟩
    case round =>
      obtain ⟨xx, mm, has, ls, rfl, hml, HX, HE, HS, HO, HP, HB⟩ := hrel
      have hlen : has.length = b := HE.out.len
      by_cases h0 : mm = 0
      · have HR : Hid (has = pickHas id b) := by
          rw [Hid, HP.out, h0]
          cases gk with
          | zero => rfl
          | succ n => rw [pickLoop, if_pos rfl]
        obtain ⟨g, cap, cur, rfl, hbg, hg, hnc, hcm, hcs, htk, hwf⟩ := own_ints HO.out (by omega)
        have hll : ls.length < 4611686018427387904 := by omega
        have HH := Lib.hid (holds_of_blockI hg htk)
        have hgl : g < wr.heap.size := (Array.getElem?_eq_some_iff.1 hg).1
        have hlt2 : decide ((ls.length : Int) < (D : Int)) = false := by simp; omega
        have hlt3 : decide (ls.length < D) = false := by simp; omega
        have HST := Lib.hid HS.out.sorted
        have HPL := Lib.hid (HS.out.perm (Sel.idx has)).length_eq
        have HWF : Hid (∀ x ∈ selIdx has, wfI x) := selIdx_wf (by omega)
        clear HP HE h0 htk hml
        (have Hg := Lib.hid hg; clear hg; have Hcs := Lib.hid hcs; clear hcs; have Hwf := Lib.hid hwf; clear hwf)
        go_wp2_with fail
        (with_reducible refine (Try.slices_Sort_int g 0 cap ls wr HH.out hgl hll).mono ?_)
        rintro e w2 ⟨rfl, n2, os2, rfl⟩
        rw [HST.out]
        have HOW := Lib.hid (ownsRow_sortedI (n := n2) (os := os2) HPL.out.symm hbg Hg.out hnc hcm Hcs.out)
        have HF2 : Hid (Fr w (Go.Sort.grow (Go.Sort.putRow (Value.int .i64) (Go.Sort.ahead wr n2) g 0 (selIdx has).toArray) os2)) := HB.out.grown (grownBy_sortedI _) HB.out.size (fun k hk => by injection hk with hk; omega)
        obtain ⟨W3, hW3⟩ : ∃ W3, W3 = Go.Sort.grow (Go.Sort.putRow (Value.int .i64) (Go.Sort.ahead wr n2) g 0 (selIdx has).toArray) os2 := ⟨_, rfl⟩
        rw [← hW3] at HOW HF2 ⊢
        clear hW3
        go_wp2_with fail
        go_ret2
        rw [← HR.out]
        rw [HPL.out] at hnc HOW ⊢
        exact ⟨_, _, _, rfl, ⟨hnc, hcm⟩, sl_ints HOW.out HWF.out, HF2.out⟩
      · obtain ⟨hg, hs1, hs2⟩ := enough_step h2 (by omega) HE.out
        have hm0 : decide ((ls.length : Int) < (D : Int)) = true := by simp; omega
        have hm1 : decide (ls.length < D) = true := by simp; omega
        obtain ⟨x', hx'⟩ : ∃ x', x' = nxt xx := ⟨_, rfl⟩
        have HXX : Hid (((xx : Int) * 1109 + 12345) % 65536 = (x' : Int)) := by rw [Hid, hx']; unfold nxt; omega
        obtain ⟨k, hk⟩ : ∃ k, k = x' / 7 % b := ⟨_, rfl⟩
        have hkb : k < b := by rw [hk]; exact Nat.mod_lt _ (by omega)
        have hx1 : Hid (x' < 65536) := by rw [hx']; exact nxt_lt xx
        have hx0 : (xx : Int) < 65536 := by have := HX.out; omega
        have hx2 : (x' : Int) < 65536 := by have := hx1.out; omega
        rw [← hx', ← hk] at hs1 hs2
        have HP' : Hid (pickHas id b = if has.getD k false then pickLoop b (gk - 1) x' mm has else pickLoop b (gk - 1) x' (mm - 1) (has.set k true)) := by
          rw [Hid, HP.out]
          conv => lhs; rw [show gk = (gk - 1) + 1 from by omega, pickLoop, if_neg h0, ← hx', ← hk]
        have hw7 : wrap64 ((x' : Int) / 7) = (x' : Int) / 7 := IntWalk.wrap64_in _ (by have := hx1.out; omega)
        have hke : ((x' : Int) / 7).tmod (b : Int) = (k : Int) := by rw [Int.tmod_eq_emod_of_nonneg (by omega), hk]; simp
        have hke2 : ((x' : Int) / 7) % (b : Int) = (k : Int) := by rw [hk]; simp
        have hb0 : ((b : Int) == 0) = false := by rw [beq_eq_false_iff_ne]; omega
        have hx7 : 0 ≤ (x' : Int) / 7 := by omega
        obtain ⟨A1, c1, rfl, ⟨hc1, hm2⟩, hsl⟩ := HO.out.slC sInt (by decide)
        have HSL := Lib.hid hsl
        have hlm : ls.length ≤ maxLen := by unfold maxLen; omega
        have hdec : Hid (decide ((k : Int) ∈ ls) = has.getD k false) := by
          have := HS.out.iff k (by omega)
          rw [Hid]
          cases hgk : has.getD k false
          · rw [hgk] at this; simp; intro e; have := this.2 e; cases this
          · rw [hgk] at this; simpa using this
        have HKE := Lib.hid (And.intro hke hke2)
        have HW7 := Lib.hid hw7
        clear HP HE hx' hk hsl hke hke2 hw7
        go_upto_region 16 with fail
        rw [HXX.out]
        have hke := HKE.out.1
        have hke2 := HKE.out.2
        have hw7 := HW7.out
        go_upto_region 17 with fail
        clear hke hke2 hw7
        go_wp2_with fail
        (with_reducible refine (containsInt_any _ _ _ _ _ ls (k : Int) HSL.out hlm).mono ?_)
        rw [hdec.out]
        rintro e w2 ⟨rfl, rfl⟩
        by_cases hh : has.getD k false = true
        · have HE' := Lib.hid (hs1 hh)
          have HR : Hid (pickHas id b = pickLoop b (gk - 1) x' mm has) := by rw [Hid, HP'.out, if_pos hh]
          rw [hh]
          clear hs1 hs2 hh HP' hdec
          go_wp2_with fail
          go_roundg (gk - 1)
          case measure => omega
          case rel => exact ⟨x', mm, has, ls, rfl, hml, hx1, HE', HS, HO, HR, HB⟩
        · have hh' : has.getD k false = false := by simpa using hh
          have HE' := Lib.hid (hs2 hh')
          have HR : Hid (pickHas id b = pickLoop b (gk - 1) x' (mm - 1) (has.set k true)) := by rw [Hid, HP'.out, if_neg hh]
          have HS' : Hid (Sel (has.set k true) (ls ++ [(k : Int)])) := HS.out.add (by omega) hh'
          have hwk : wfI (k : Int) := wfI.mk (by omega)
          have hml' : mm - 1 + (ls ++ [(k : Int)]).length = D := by simp; omega
          have hll : ls.length ≤ 24 := by omega
          rw [hh']
          clear hs1 hs2 hh HP' hdec hh'
          (have Hml' := Lib.hid hml'; clear hml')
          go_wp2_with (at_builtin; refine wpList_apps _ rfl _ _ 48 rfl w.heap.size 3 (.int .i64 0) 1 8 Try.underlying48 infoInt rfl (by decide) sInt _ ls rfl (HO.out.fr sInt (frAlloc _ _)) ⟨wr.heap.size, 0, none⟩ 1 1 [.int .i64 (k : Int)] rfl rfl (cell_one_new _ _ _) ?c2 [(k : Int)] rfl ?c3 ?c4 ?c5 ?c6 ?_)
          case c2 => intro u hu; simp at hu; subst hu; rfl
          case c3 =>
            intro i y hy
            obtain rfl : i = 0 := by have := (List.getElem?_eq_some_iff.1 hy).1; simp at this; omega
            obtain rfl : (k : Int) = y := by simpa using hy
            exact ⟨rfl, hwk⟩
          case c4 => unfold maxLen; omega
          case c5 => unfold lim; omega
          case c6 => have := HB.out.size; simp; omega
          · intro v' w3 hown' hg' hge
            have HO' := Lib.hid hown'
            have HB' : Hid (Fr w w3) := (frA HB.out _).grown hg' (by have := HB.out.size; simp; omega) hge
            clear hown' hg' hge
            go_wp2_with fail
            go_roundg (gk - 1)
            case measure => omega
            case rel => exact ⟨x', mm - 1, has.set k true, ls ++ [(k : Int)], rfl, Hml'.out, hx1, HE', HS', HO', HR, HB'⟩
end Go.Proofs.Ytnfjghldcopaaaa
namespace Go.Proofs.Ytnfjghldcopaaaa
open Go.RowKit

set_option maxHeartbeats 1000000 in
theorem picked_any (w : World) : Calls Try.prog 31 #[] w fun e w' => e = .returned (.bool true) ∧ Fr w w' := by
  have E1 : Hid (pickOf 1 3 = ([false, true, false], 0)) := by unfold Hid; decide +kernel
  have E2 : Hid ((pickOf 7 3).2 = 0 ∧ (pickOf 7 3).1.length = 3 ∧ cnt (pickOf 7 3).1 = 2) := by unfold Hid; decide +kernel
  obtain ⟨X, hX⟩ : ∃ X, X = (pickOf 7 3).1 := ⟨_, rfl⟩
  have E3 : Hid (pickOf 7 3 = (X, 0)) := by rw [Hid, hX, ← E2.out.1]
  have E4 : Hid (X.length = 3 ∧ cnt X = 2) := by rw [Hid, hX]; exact E2.out.2
  clear hX
  go_enter Try.func31, Try.ntmps31
  go_wp2_with fail
  refine (pickOf_any _ _ _).mono ?_
  rw [E1.out]
  rintro e w1 ⟨A1, n1, c1, rfl, hn1, _, hs1, hf1⟩
  obtain rfl : n1 = 3 := hs1.1.symm
  (have Hs1 := Lib.hid hs1; clear hs1; have Hf1 := Lib.hid hf1; clear hf1)
  go_wp2_with fail
  refine (pickOf_any _ _ _).mono ?_
  rw [E3.out]
  rintro e w2 ⟨A2, n2, c2, rfl, hn2, _, hs2, hf2⟩
  obtain rfl : n2 = 3 := by rw [← hs2.1]; exact E4.out.1
  (have Hs2 := Lib.hid hs2; clear hs2; have Hf2 := Lib.hid hf2; clear hf2)
  go_wp2_with fail
  go_loop [5, 18] (fun n i => ∃ k : Nat, k ≤ 3 ∧ i = .int .i64 k ∧ n = .int .i64 (cnt (X.take k) : Nat)) (fun _ i => 3 - (intOf i).toNat)
  case atStart => exact ⟨0, Nat.zero_le _, rfl, rfl⟩
  case round =>
    obtain ⟨k, hk, rfl, rfl⟩ := hrel
    by_cases hlt : k < 3
    · obtain ⟨ad, rfl, hE⟩ := Hs2.out.els (by omega)
      obtain ⟨b, hb, hc⟩ := hE.bool hlt
      have HC := Lib.hid (cnt_take hb)
      have hcl : cnt (X.take k) ≤ 3 := Nat.le_trans (cnt_le _) (by rw [List.length_take]; omega)
      obtain ⟨q, hq⟩ : ∃ q, q = cnt (X.take k) := ⟨_, rfl⟩
      rw [← hq] at hcl
      rw [← hq]
      have HQ := Lib.hid hq
      clear hb hq
      cases b
      all_goals
        go_wp2
        go_round
        case rel => exact ⟨k + 1, by omega, by go_num, by rw [HC.out, ← HQ.out]; go_num⟩
        case measure => simp [intOf]; omega
    · obtain rfl : k = 3 := by omega
      have hq : Hid (cnt (X.take 3) = 2) := by rw [Hid, List.take_of_length_le (by rw [E4.out.1]; omega)]; exact E4.out.2
      rw [hq.out]
      go_wp2_with fail
      refine (equalBools_any _ _ Any _ _ _ _ _ _ [false, true, false] [false, true, false] (Hs1.out.go sBool (by (repeat' (first | exact Below.refl _ _ | refine below_drewN ?_ _ | refine Below.drew ?_ | refine frA ?_ _ | refine Fr.trans ?_ Hf3.out | refine Fr.trans ?_ Hf2.out | refine Fr.trans ?_ Hf1.out)))) ?_ (by decide)).mono ?_
      · apply Sl.litBools (hS := trivial) (hn := rfl)
        · (repeat' (first | (refine heap_new ?_; (first | (simp; done) | rfl); done) | refine heap_dn ?_ | refine heap_d ?_ | refine heap_old ?_))
        · rfl
      · rintro e w3 ⟨rfl, m, rfl⟩
        go_wp2_with fail
        go_ret
        exact ⟨rfl, (by (repeat' (first | exact Below.refl _ _ | refine below_drewN ?_ _ | refine Below.drew ?_ | refine frA ?_ _ | refine Fr.trans ?_ Hf3.out | refine Fr.trans ?_ Hf2.out | refine Fr.trans ?_ Hf1.out)))⟩

end Go.Proofs.Ytnfjghldcopaaaa
namespace Go.Proofs.Ytnfjghldcopaaaa
open Go.RowKit
attribute [local irreducible] wpList

set_option maxHeartbeats 400000 in
theorem refPicked_any (w : World) (id b : Int) :
    Calls Try.prog 30 #[.int .i64 id, .int .i64 b] w fun e w' => ∃ A n c, e = .returned (.tuple #[.slice A n c, .int .i64 (pickedR id b).2]) ∧ (n ≤ c ∧ c ≤ maxLen) ∧ Sl 1 eInt w' (LT w'.heap.size) A n (pickedR id b).1 ∧ Fr w w' := by
  by_cases h : 0 ≤ id ∧ id ≤ 9999 ∧ 1 ≤ b ∧ b ≤ 24
  · have E : pickedR id b = (selIdx (pickHas id.toNat b.toNat), 0) := if_pos h
    rw [E]
    obtain ⟨i, rfl⟩ := Int.eq_ofNat_of_zero_le h.1
    obtain ⟨m, rfl⟩ := Int.eq_ofNat_of_zero_le (show 0 ≤ b by omega)
    simp only [Int.toNat_natCast]
    by_cases hlt : i < m
    · have r1 : inR i 0 9999 = true := inR_t (by omega)
      have r2 : inR m 1 24 = true := inR_t (by omega)
      have e1 : selIdx (pickHas i m) = [(i : Int)] := by unfold pickHas; rw [if_pos hlt]; exact selIdx_one hlt
      have hwi : wfI (i : Int) := wfI.mk (by omega)
      rw [e1]
      clear E e1
      (have Hwi := Lib.hid hwi; clear hwi)
      go_enter Try.func30, Try.ntmps30
      go_wp2_with (go_at_call 61; refine (in_any _ _ _ _).mono ?_; rintro e w' ⟨rfl, rfl⟩)
      go_ret2
      refine ⟨_, _, _, rfl, ⟨Nat.le_refl _, by unfold maxLen; omega⟩, Sl.litInts (heap_new rfl) (by simp [LT]) rfl ?_ rfl, frAlloc _ _⟩
      intro x hx
      obtain rfl : x = (i : Int) := by simpa using hx
      exact Hwi.out
    · exact refPicked_more w i m (by omega) (by omega) (by omega) (by omega)
  · have E : pickedR id b = ([], 3) := if_neg h
    rw [E]
    by_cases h1 : 0 ≤ id ∧ id ≤ 9999
    · have r1 : inR id 0 9999 = true := inR_t h1
      have r2 : inR b 1 24 = false := inR_f (by omega)
      clear E h h1
      go_enter Try.func30, Try.ntmps30
      go_wp2_with (go_at_call 61; refine (in_any _ _ _ _).mono ?_; rintro e w' ⟨rfl, rfl⟩)
      go_ret2
      exact ⟨_, _, _, rfl, ⟨Nat.le_refl _, by unfold maxLen; omega⟩, Sl.nil, Below.refl _ _⟩
    · have r1 : inR id 0 9999 = false := inR_f h1
      clear E h h1
      go_enter Try.func30, Try.ntmps30
      go_wp2_with (go_at_call 61; refine (in_any _ _ _ _).mono ?_; rintro e w' ⟨rfl, rfl⟩)
      go_ret2
      exact ⟨_, _, _, rfl, ⟨Nat.le_refl _, by unfold maxLen; omega⟩, Sl.nil, Below.refl _ _⟩

theorem picked_has {X : List Bool} {k : Nat} {b : Bool} (h : X[k]? = some b) : decide ((k : Int) ∈ selIdx X) = b := by
  have hk := (List.getElem?_eq_some_iff.1 h).1
  have h1 := (Sel.idx X).iff k hk
  rw [List.getD_eq_getElem?_getD, h] at h1
  cases b
  · simp at h1; simpa using h1
  · simp at h1; simpa using h1

set_option maxHeartbeats 400000 in
theorem pickSays_any (w : World) (id : Int) (wi : wfI id) (many : Int) (wm : wfI many) :
    Calls Try.prog 6 #[.int .i64 id, .int .i64 many] w fun e w' => e = .returned (.bool true) ∧ Fr w w' := by
  by_cases h : 0 ≤ id ∧ id ≤ 9999 ∧ 1 ≤ many ∧ many ≤ 24
  · obtain ⟨i, rfl⟩ := Int.eq_ofNat_of_zero_le h.1
    obtain ⟨m, rfl⟩ := Int.eq_ofNat_of_zero_le (show 0 ≤ many by omega)
    obtain ⟨X, hX⟩ : ∃ X, X = pickHas i m := ⟨_, rfl⟩
    have E : Hid (pickOf i m = (X, 0)) := by rw [Hid, hX]; exact if_pos h
    have E2 : Hid (pickedR i m = (selIdx X, 0)) := by rw [Hid, hX]; exact if_pos h
    have hXl : Hid (X.length = m) := by rw [Hid, hX]; exact length_pickHas i m
    have hm : 1 ≤ m ∧ m ≤ 24 := by omega
    obtain ⟨hm1, hm2⟩ := hm
    (have HX := Lib.hid hX; clear hX; have H := Lib.hid h; clear h)
    clear wi wm
    go_enter Try.func6, Try.ntmps6
    go_wp2_with fail
    (with_reducible refine (pickOf_any _ _ _).mono ?_)
    rw [E.out]
    rintro e w1 ⟨A1, n1, c1, rfl, _, _, hs1, hf1⟩
    obtain rfl : n1 = m := hs1.1.symm.trans hXl.out
    (have Hs1 := Lib.hid hs1; clear hs1; have Hf1 := Lib.hid hf1; clear hf1)
    go_wp2_with fail
    (with_reducible refine (refPicked_any _ _ _).mono ?_)
    rw [E2.out]
    rintro e w2 ⟨A2, n2, c2, rfl, ⟨hc2, hx2⟩, hs2, hf2⟩
    (have Hs2 := Lib.hid hs2; clear hs2; have Hf2 := Lib.hid hf2; clear hf2)
    go_wp2_with fail
    (with_reducible refine (picked_any _).mono ?_)
    rintro e w3 ⟨rfl, hf3⟩
    have hs1' := Hs1.out.go sBool (Hf2.out.trans hf3)
    have hs2' := Hs2.out.go sInt hf3
    have hn2 : n2 ≤ maxLen := by omega
    (have Hf3 := Lib.hid hf3; clear hf3; have Hs1' := Lib.hid hs1'; clear hs1'; have Hs2' := Lib.hid hs2'; clear hs2')
    go_wp2_with fail
    go_loop [51] (fun i => ∃ k : Nat, k ≤ n1 ∧ i = .int .i64 k) (fun i => n1 - (intOf i).toNat)
    case atStart => exact ⟨0, Nat.zero_le _, rfl⟩
    case round =>
      obtain ⟨k, hk, rfl⟩ := hrel
      by_cases hlt : k < n1
      · obtain ⟨ad, rfl, hE⟩ := Hs1'.out.els (by omega)
        obtain ⟨b, hb, hc⟩ := hE.bool hlt
        have HD := Lib.hid (picked_has hb)
        clear hb
        go_wp2_with fail
        (with_reducible refine (containsInt_any _ _ _ _ _ (selIdx X) (k : Int) Hs2'.out hn2).mono ?_)
        rw [HD.out]
        rintro e w4 ⟨rfl, rfl⟩
        cases b
        all_goals
          go_wp2_with fail
          go_round
          case rel => exact ⟨k + 1, by omega, by go_num⟩
          case measure => simp [intOf]; omega
      · obtain rfl : k = n1 := by omega
        go_wp2_with fail
        go_ret
        exact ⟨rfl, (by (repeat' (first | exact Below.refl _ _ | refine below_drewN ?_ _ | refine Below.drew ?_ | refine frA ?_ _ | refine Fr.trans ?_ Hf3.out | refine Fr.trans ?_ Hf2.out | refine Fr.trans ?_ Hf1.out)))⟩
  · have E : Hid (pickOf id many = ([], 3)) := if_neg h
    have E2 : Hid (pickedR id many = ([], 3)) := if_neg h
    clear h wi wm
    go_enter Try.func6, Try.ntmps6
    go_wp2_with fail
    (with_reducible refine (pickOf_any _ _ _).mono ?_)
    rw [E.out]
    rintro e w1 ⟨A1, n1, c1, rfl, _, _, hs1, hf1⟩
    obtain rfl : n1 = 0 := hs1.1.symm
    (have Hs1 := Lib.hid hs1; clear hs1; have Hf1 := Lib.hid hf1; clear hf1)
    go_wp2_with fail
    (with_reducible refine (refPicked_any _ _ _).mono ?_)
    rw [E2.out]
    rintro e w2 ⟨A2, n2, c2, rfl, ⟨hc2, hx2⟩, hs2, hf2⟩
    (have Hs2 := Lib.hid hs2; clear hs2; have Hf2 := Lib.hid hf2; clear hf2)
    go_wp2_with fail
    (with_reducible refine (picked_any _).mono ?_)
    rintro e w3 ⟨rfl, hf3⟩
    (have Hf3 := Lib.hid hf3; clear hf3)
    go_wp2_with fail
    (with_reducible refine (picked_any _).mono ?_)
    rintro e w4 ⟨rfl, hf4⟩
    (have Hf4 := Lib.hid hf4; clear hf4)
    go_wp2_with fail
    go_ret
    exact ⟨rfl, (by (repeat' (first | exact Below.refl _ _ | refine below_drewN ?_ _ | refine Below.drew ?_ | refine frA ?_ _ | refine Fr.trans ?_ Hf4.out | refine Fr.trans ?_ Hf3.out | refine Fr.trans ?_ Hf2.out | refine Fr.trans ?_ Hf1.out)))⟩
end Go.Proofs.Ytnfjghldcopaaaa
