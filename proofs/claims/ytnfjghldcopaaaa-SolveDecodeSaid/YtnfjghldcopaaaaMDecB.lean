/- How what is known lies in memory; an append that says where it lies. No condition; no function in sight. -/
import Derived.Shelf.Sort.Plain
import Derived.Test.YtnfjghldcopaaaaProg
import Derived.Test.YtnfjghldcopaaaaMDecA
import Derived.Test.YtnfjghldcopaaaaPick
import Derived.Test.YtnfjghldcopaaaaIdx
import Derived.Test.YtnfjghldcopaaaaSum
import Derived.Sort.OwnSortedInts
import Derived.Deep.CutBlock
import Derived.Deep.DeepCutAuto
import Derived.Deep.Cut
import Derived.Test.YtnfjghldcopaaaaEq
import Derived.Test.YtnfjghldcopaaaaOwn
import Derived.Test.YtnfjghldcopaaaaCode
import Derived.Test.YtnfjghldcopaaaaApp
import Derived.Test.YtnfjghldcopaaaaBox
import Derived.Test.YtnfjghldcopaaaaChg
import Derived.Deep.RegionHeld3
import Derived.Test.YtnfjghldcopaaaaRev
import Derived.Test.YtnfjghldcopaaaaSolP
import Derived.Test.YtnfjghldcopaaaaAddM
import Derived.Laws.AppendOwnNone
import Derived.Test.YtnfjghldcopaaaaKnown
import Derived.Lib.LazyBuf
set_option linter.unusedSimpArgs false
set_option linter.unusedVariables false
namespace Go.Proofs
open Go.Shelf
def Try.lays189_ren : Go.Shelf.Ren := ⟨fun | 189 => 71 | 125 => 93 | 257 => 92 | 128 => 108 | 129 => 109 | 294 => 99 | 295 => 100 | 296 => 101 | 297 => 102 | 298 => 103 | 299 => 104 | 216 => 105 | 300 => 106 | 301 => 107 | 328 => 112 | 329 => 113 | 330 => 114 | 331 => 115 | 332 => 116 | 215 => 117 | 343 => 118 | n => n, fun | 28 => 48 | 3 => 3 | 46 => 122 | 0 => 0 | 51 => 136 | 53 => 138 | 4 => 4 | 183 => 129 | 182 => 128 | 131 => 133 | 5 => 5 | 9 => 9 | 218 => 141 | 222 => 145 | 228 => 147 | 229 => 148 | n => n, fun | n => n⟩
theorem Try.lays189 : Go.Proofs.Lays.n189 Try.prog Try.lays189_ren := {
  mixed := by kernel_rfl
  f125 := Try.func93.trans (congrArg some (by kernel_rfl))
  f128 := Try.func108.trans (congrArg some (by kernel_rfl))
  f129 := Try.func109.trans (congrArg some (by kernel_rfl))
  f189 := Try.func71.trans (congrArg some (by kernel_rfl))
  f215 := Try.func117.trans (congrArg some (by kernel_rfl))
  f216 := Try.func105.trans (congrArg some (by kernel_rfl))
  f257 := Try.func92.trans (congrArg some (by kernel_rfl))
  f294 := Try.func99.trans (congrArg some (by kernel_rfl))
  f295 := Try.func100.trans (congrArg some (by kernel_rfl))
  f296 := Try.func101.trans (congrArg some (by kernel_rfl))
  f297 := Try.func102.trans (congrArg some (by kernel_rfl))
  f298 := Try.func103.trans (congrArg some (by kernel_rfl))
  f299 := Try.func104.trans (congrArg some (by kernel_rfl))
  f300 := Try.func106.trans (congrArg some (by kernel_rfl))
  f301 := Try.func107.trans (congrArg some (by kernel_rfl))
  f328 := Try.func112.trans (congrArg some (by kernel_rfl))
  f329 := Try.func113.trans (congrArg some (by kernel_rfl))
  f330 := Try.func114.trans (congrArg some (by kernel_rfl))
  f331 := Try.func115.trans (congrArg some (by kernel_rfl))
  f332 := Try.func116.trans (congrArg some (by kernel_rfl))
  f343 := Try.func118.trans (congrArg some (by kernel_rfl))
  t0 := Try.underlying0
  a0 := Try.isAgg0
  z0 := Try.sizeOf0
  v0 := Try.zeroValue0
  t3 := Try.underlying3
  a3 := Try.isAgg3
  z3 := Try.sizeOf3
  v3 := Try.zeroValue3
  t4 := Try.underlying4
  a4 := Try.isAgg4
  z4 := Try.sizeOf4
  v4 := Try.zeroValue4
  t5 := Try.underlying5
  a5 := Try.isAgg5
  z5 := Try.sizeOf5
  v5 := Try.zeroValue5
  t9 := Try.underlying9
  a9 := Try.isAgg9
  z9 := Try.sizeOf9
  v9 := Try.zeroValue9
  t28 := Try.underlying48
  a28 := Try.isAgg48
  z28 := Try.sizeOf48
  v28 := Try.zeroValue48
  t46 := Try.underlying122
  a46 := Try.isAgg122
  z46 := Try.sizeOf122
  v46 := Try.zeroValue122
  t51 := Try.underlying136
  a51 := Try.isAgg136
  z51 := Try.sizeOf136
  v51 := Try.zeroValue136
  t53 := Try.underlying138
  a53 := Try.isAgg138
  z53 := Try.sizeOf138
  v53 := Try.zeroValue138
  t131 := Try.underlying133
  a131 := Try.isAgg133
  z131 := Try.sizeOf133
  v131 := Try.zeroValue133
  t182 := Try.underlying128
  a182 := Try.isAgg128
  z182 := Try.sizeOf128
  v182 := Try.zeroValue128
  t183 := Try.underlying129
  a183 := Try.isAgg129
  z183 := Try.sizeOf129
  v183 := Try.zeroValue129
  t218 := Try.underlying141
  a218 := Try.isAgg141
  z218 := Try.sizeOf141
  v218 := Try.zeroValue141
  t222 := Try.underlying145
  a222 := Try.isAgg145
  z222 := Try.sizeOf145
  v222 := Try.zeroValue145
  t228 := Try.underlying147
  a228 := Try.isAgg147
  z228 := Try.sizeOf147
  v228 := Try.zeroValue147
  t229 := Try.underlying148
  a229 := Try.isAgg148
  z229 := Try.sizeOf148
  v229 := Try.zeroValue148 }
open Go.Sort Go.RowKit in
theorem Try.slices_Sort_int (blk off cap : Nat) (zs : List Int) (w : World) (hH : Holds (Value.int .i64) w blk off zs.toArray) (hblk : blk < w.heap.size) (hsz : zs.length < 4611686018427387904) :
    Calls Try.prog 71 #[.slice (some ⟨blk, off, none⟩) zs.length cap] w fun e w' =>
      e = .returned (.tuple #[]) ∧ ∃ n os, w' = grow (putRow (Value.int .i64) (Sort.ahead w n) blk off (zs.mergeSort fun x y => decide (x ≤ y)).toArray) os := Any.slices_Sort_int Try.lays189 blk off cap zs w hH hblk hsz
end Go.Proofs
namespace Go.Proofs.Ytnfjghldcopaaaa
open Go.RowKit
attribute [local irreducible] wpList

theorem infoInt : (Try.prog.info? 3).map (fun i => (i.zero, i.size, i.bytes)) = some (some (.int .i64 0), 1, 8) := by kernel_rfl

theorem own_ints {w : World} {base : Nat} {e : TypeId} {v : Value} {ls : List Int} (h : Own 1 eInt w base e v ls) (hn : 0 < ls.length) :
    ∃ (g cap : Nat) (cur : Array Value), v = .slice (some ⟨g, 0, none⟩) ls.length cap ∧ base ≤ g ∧ w.heap[g]? = some (.cells cur e (0, 0)) ∧ ls.length ≤ cap ∧ cap ≤ maxLen ∧ cur.size = cap * 1 ∧ cur.toList.take ls.length = ls.map (Value.int .i64) ∧ ∀ x ∈ ls, wfI x := by
  obtain ⟨cs, ho, hr⟩ := h
  have hlen := ho.1
  rcases ho.2 with ⟨rfl, h0⟩ | ⟨g, cap, cur, rfl, hbg, hg, hnc, hcm, hcs, htake⟩
  · omega
  · refine ⟨g, cap, cur, rfl, hbg, hg, hnc, hcm, hcs, ?_, fun x hx => ?_⟩
    · rw [Nat.mul_one] at htake hlen
      rw [htake]
      apply List.ext_getElem (by simp [hlen])
      intro i h1 h2
      have := (hr i ls[i] (by rw [List.getElem?_eq_getElem])).1
      simp only [Nat.mul_one, Nat.add_zero] at this
      rw [List.getElem?_eq_getElem h1] at this
      simpa using this
    · obtain ⟨i, hi, rfl⟩ := List.mem_iff_getElem.1 hx
      exact (hr i ls[i] (by rw [List.getElem?_eq_getElem])).2
theorem sl_ints {w : World} {base g cap : Nat} {e : TypeId} {ts : List Int} (h : w.ownsRow base e 1 (.slice (some ⟨g, 0, none⟩) ts.length cap) ts.length (ts.map (Value.int .i64))) (hw : ∀ x ∈ ts, wfI x) : Sl 1 eInt w (LT w.heap.size) (some ⟨g, 0, none⟩) ts.length ts := by
  have ho : Own 1 eInt w base e (.slice (some ⟨g, 0, none⟩) ts.length cap) ts := ⟨_, h, fun i x hx => ⟨by simp [hx], hw x (List.mem_of_getElem? hx)⟩⟩
  obtain ⟨A, c, e1, _, hs⟩ := ho.slC sInt (by decide)
  injection e1 with e1
  subst e1
  exact hs
theorem selIdx_wf {l : List Bool} (h : l.length ≤ 24) : ∀ x ∈ selIdx l, wfI x := by
  intro x hx
  obtain ⟨k, rfl, hk⟩ := (Sel.idx l).bd x hx
  exact wfI.mk (by omega)
set_option maxRecDepth 100000 in
set_option maxHeartbeats 1000000 in
theorem refPicked_more (w : World) (id b : Nat) (h1 : b ≤ id) (h2 : b ≤ 24) (h3 : 1 ≤ b) (h4 : id ≤ 9999) :
    Calls Try.prog 30 #[.int .i64 id, .int .i64 b] w fun e w' => ∃ A n c, e = .returned (.tuple #[.slice A n c, .int .i64 0]) ∧ (n ≤ c ∧ c ≤ maxLen) ∧ Sl 1 eInt w' (LT w'.heap.size) A n (selIdx (pickHas id b)) ∧ Fr w w' := by
  have hlt0 : decide ((id : Int) < (b : Int)) = false := by simp; omega
  have hlt1 : decide (id < b) = false := by simp; omega
  have r1 : inR id 0 9999 = true := inR_t (by omega)
  have r2 : inR b 1 24 = true := inR_t (by omega)
  obtain ⟨x, hx⟩ : ∃ x, x = nxt id := ⟨_, rfl⟩
  have hxi : ((id : Int) * 1109 + 12345) % 65536 = (x : Int) := by rw [hx]; unfold nxt; omega
  have hxl : x < 65536 := by rw [hx]; exact nxt_lt id
  have hE : Hid (pickHas id b = pickLoop b fuel x (degree x b) (noHas b)) := by rw [Hid, hx]; unfold pickHas; rw [if_neg (by omega)]
  have hd := degree_bd x b h3
  have hen : Hid (Enough b fuel x (degree x b) (noHas b)) := enough_new h2 (by simp [noHas]) (by rw [cnt_noHas]; omega) (by unfold fuel; omega)
  have HX := Lib.hid hxi
  clear hx hxi
  go_enter Try.func30, Try.ntmps30
  go_upto_block 0 with (go_at_call 61; refine (in_any _ _ _ _).mono ?_; rintro e w' ⟨rfl, rfl⟩)
  rw [HX.out]
  obtain ⟨W1, hW1⟩ : ∃ W1, W1 = w.alloc (.cells #[.int .i64 8192, .int .i64 40960, .int .i64 51882, .int .i64 57344, .int .i64 60621] 3) := ⟨_, rfl⟩
  have HF1 : Hid (Fr w W1) := by rw [hW1]; exact frAlloc _ _
  have hb1 : W1.heap[w.heap.size]? = some (.cells #[.int .i64 8192, .int .i64 40960, .int .i64 51882, .int .i64 57344, .int .i64 60621] 3 (0, 0)) := by rw [hW1]; exact heap_new rfl
  have hc0 : W1.cell? ⟨w.heap.size, 0, none⟩ = some (.int .i64 8192) := cell_of_heap hb1
  have hc1 : W1.cell? ⟨w.heap.size, 1, none⟩ = some (.int .i64 40960) := cell_of_heap hb1
  have hc2 : W1.cell? ⟨w.heap.size, 2, none⟩ = some (.int .i64 51882) := cell_of_heap hb1
  have hc3 : W1.cell? ⟨w.heap.size, 3, none⟩ = some (.int .i64 57344) := cell_of_heap hb1
  have hc4 : W1.cell? ⟨w.heap.size, 4, none⟩ = some (.int .i64 60621) := cell_of_heap hb1
  rw [← hW1]
  clear hW1 hb1
  go_cut [7] (fun s7 wx => s7 = .int .i64 (degree x b : Nat) ∧ W1 = wx)
  case first =>
    go_wp2_with fail
    go_loop [7, 34] (fun m i => ∃ k : Nat, k ≤ 5 ∧ i = .int .i64 k ∧ m = .int .i64 (max 1 ((b : Int) / 2)) ∧ (if k = 0 then 0 else if k = 1 then 8192 else if k = 2 then 40960 else if k = 3 then 51882 else if k = 4 then 57344 else 60621) ≤ (x : Int)) (fun _ i => 5 - (intOf i).toNat)
    case atStart => exact ⟨0, Nat.zero_le _, rfl, rfl, by simp⟩
    case round =>
      obtain ⟨k, hk, rfl, rfl, hx2⟩ := hrel
      rcases (show k = 0 ∨ k = 1 ∨ k = 2 ∨ k = 3 ∨ k = 4 ∨ k = 5 from by omega) with rfl | rfl | rfl | rfl | rfl | rfl
      · have hx3 : (0 : Int) ≤ x := by omega
        clear hx2
        by_cases hlt : (x : Int) < 8192
        · have E : Hid ((degree x b : Int) = min (1 : Int) b) := by
            unfold Hid degree
            repeat' (first | rw [if_pos (by omega)] | rw [if_neg (by omega)])
            omega
          clear hx3
          have hb1 : decide ((x : Int) < 8192) = true := decide_eq_true hlt
          clear hlt
          by_cases hbk : (1 : Int) ≤ b
          all_goals
            go_wp2_with fail
            go_meet
            exact ⟨by rw [E.out] <;> congr 1 <;> omega, rfl⟩
        · clear hx3
          have hb1 : decide ((x : Int) < 8192) = false := decide_eq_false hlt
          have HLT := Lib.hid hlt
          clear hlt
          go_wp2_with fail
          go_round
          case rel => exact ⟨_, by decide, rfl, rfl, by have := HLT.out; simp; omega⟩
          case measure => simp [intOf]
      · have hx3 : (8192 : Int) ≤ x := by omega
        clear hx2
        by_cases hlt : (x : Int) < 40960
        · have E : Hid ((degree x b : Int) = min (2 : Int) b) := by
            unfold Hid degree
            repeat' (first | rw [if_pos (by omega)] | rw [if_neg (by omega)])
            omega
          clear hx3
          have hb1 : decide ((x : Int) < 40960) = true := decide_eq_true hlt
          clear hlt
          by_cases hbk : (2 : Int) ≤ b
          all_goals
            go_wp2_with fail
            go_meet
            exact ⟨by rw [E.out] <;> congr 1 <;> omega, rfl⟩
        · clear hx3
          have hb1 : decide ((x : Int) < 40960) = false := decide_eq_false hlt
          have HLT := Lib.hid hlt
          clear hlt
          go_wp2_with fail
          go_round
          case rel => exact ⟨_, by decide, rfl, rfl, by have := HLT.out; simp; omega⟩
          case measure => simp [intOf]
      · have hx3 : (40960 : Int) ≤ x := by omega
        clear hx2
        by_cases hlt : (x : Int) < 51882
        · have E : Hid ((degree x b : Int) = min (3 : Int) b) := by
            unfold Hid degree
            repeat' (first | rw [if_pos (by omega)] | rw [if_neg (by omega)])
            omega
          clear hx3
          have hb1 : decide ((x : Int) < 51882) = true := decide_eq_true hlt
          clear hlt
          by_cases hbk : (3 : Int) ≤ b
          all_goals
            go_wp2_with fail
            go_meet
            exact ⟨by rw [E.out] <;> congr 1 <;> omega, rfl⟩
        · clear hx3
          have hb1 : decide ((x : Int) < 51882) = false := decide_eq_false hlt
          have HLT := Lib.hid hlt
          clear hlt
          go_wp2_with fail
          go_round
          case rel => exact ⟨_, by decide, rfl, rfl, by have := HLT.out; simp; omega⟩
          case measure => simp [intOf]
      · have hx3 : (51882 : Int) ≤ x := by omega
        clear hx2
        by_cases hlt : (x : Int) < 57344
        · have E : Hid ((degree x b : Int) = min (4 : Int) b) := by
            unfold Hid degree
            repeat' (first | rw [if_pos (by omega)] | rw [if_neg (by omega)])
            omega
          clear hx3
          have hb1 : decide ((x : Int) < 57344) = true := decide_eq_true hlt
          clear hlt
          by_cases hbk : (4 : Int) ≤ b
          all_goals
            go_wp2_with fail
            go_meet
            exact ⟨by rw [E.out] <;> congr 1 <;> omega, rfl⟩
        · clear hx3
          have hb1 : decide ((x : Int) < 57344) = false := decide_eq_false hlt
          have HLT := Lib.hid hlt
          clear hlt
          go_wp2_with fail
          go_round
          case rel => exact ⟨_, by decide, rfl, rfl, by have := HLT.out; simp; omega⟩
          case measure => simp [intOf]
      · have hx3 : (57344 : Int) ≤ x := by omega
        clear hx2
        by_cases hlt : (x : Int) < 60621
        · have E : Hid ((degree x b : Int) = min (5 : Int) b) := by
            unfold Hid degree
            repeat' (first | rw [if_pos (by omega)] | rw [if_neg (by omega)])
            omega
          clear hx3
          have hb1 : decide ((x : Int) < 60621) = true := decide_eq_true hlt
          clear hlt
          by_cases hbk : (5 : Int) ≤ b
          all_goals
            go_wp2_with fail
            go_meet
            exact ⟨by rw [E.out] <;> congr 1 <;> omega, rfl⟩
        · clear hx3
          have hb1 : decide ((x : Int) < 60621) = false := decide_eq_false hlt
          have HLT := Lib.hid hlt
          clear hlt
          go_wp2_with fail
          go_round
          case rel => exact ⟨_, by decide, rfl, rfl, by have := HLT.out; simp; omega⟩
          case measure => simp [intOf]
      · have hx3 : (60621 : Int) ≤ x := by simp at hx2 ⊢; omega
        clear hx2
        have E : Hid ((degree x b : Int) = max 1 ((b : Int) / 2)) := by
          unfold Hid degree
          repeat' (rw [if_neg (by omega)])
          omega
        clear hx3
        go_wp2_with fail
        all_goals
          go_meet
          exact ⟨by rw [E.out], rfl⟩
  case rest =>
    obtain ⟨rfl, rfl⟩ := hcut
    obtain ⟨D, hD⟩ : ∃ D, D = degree x b := ⟨_, rfl⟩
    rw [← hD] at hd hen hE ⊢
    obtain ⟨hd1, hd2⟩ := hd
    clear hc0 hc1 hc2 hc3 hc4 hD HX
    go_wp2_with fail
    go_loopg [6, 10] fuel (fun g s6 s10 wr => ∃ (xx mm : Nat) (has : List Bool) (ls : List Int), s6 = .int .i64 xx ∧ mm + ls.length = D ∧ Hid (xx < 65536) ∧ Hid (Enough b g xx mm has) ∧ Hid (Sel has ls) ∧ Hid (Own 1 eInt wr w.heap.size 3 s10 ls) ∧ Hid (pickHas id b = pickLoop b g xx mm has) ∧ Hid (Below w.heap.size w wr))
    case atStart => exact ⟨x, D, noHas b, [], rfl, by simp, hxl, hen, Sel.new b, Own.nil, hE, HF1.out⟩
    case round =>
      obtain ⟨xx, mm, has, ls, rfl, hml, HX, HE, HS, HO, HP, HB⟩ := hrel
      have hlen : has.length = b := HE.out.len
      by_cases h0 : mm = 0
      · have HR : Hid (has = pickHas id b) := by
          rw [Hid, HP.out, h0]
          cases gk with
          | zero => rfl
          | succ n => rw [pickLoop, if_pos rfl]
        obtain ⟨g, cap, cur, rfl, hbg, hg, hnc, hcm, hcs, htk, hwf⟩ := own_ints HO.out (by omega)
        have hll : ls.length < 4611686018427387904 := by omega
        have HH := Lib.hid (holds_of_blockI hg htk)
        have hgl : g < wr.heap.size := (Array.getElem?_eq_some_iff.1 hg).1
        have hlt2 : decide ((ls.length : Int) < (D : Int)) = false := by simp; omega
        have hlt3 : decide (ls.length < D) = false := by simp; omega
        have HST := Lib.hid HS.out.sorted
        have HPL := Lib.hid (HS.out.perm (Sel.idx has)).length_eq
        have HWF : Hid (∀ x ∈ selIdx has, wfI x) := selIdx_wf (by omega)
        clear HP HE h0 htk hml
        (have Hg := Lib.hid hg; clear hg; have Hcs := Lib.hid hcs; clear hcs; have Hwf := Lib.hid hwf; clear hwf)
        go_wp2_with fail
        (with_reducible refine (Try.slices_Sort_int g 0 cap ls wr HH.out hgl hll).mono ?_)
        rintro e w2 ⟨rfl, n2, os2, rfl⟩
        rw [HST.out]
        have HOW := Lib.hid (ownsRow_sortedI (n := n2) (os := os2) HPL.out.symm hbg Hg.out hnc hcm Hcs.out)
        have HF2 : Hid (Fr w (Go.Sort.grow (Go.Sort.putRow (Value.int .i64) (Go.Sort.ahead wr n2) g 0 (selIdx has).toArray) os2)) := HB.out.grown (grownBy_sortedI _) HB.out.size (fun k hk => by injection hk with hk; omega)
        obtain ⟨W3, hW3⟩ : ∃ W3, W3 = Go.Sort.grow (Go.Sort.putRow (Value.int .i64) (Go.Sort.ahead wr n2) g 0 (selIdx has).toArray) os2 := ⟨_, rfl⟩
        rw [← hW3] at HOW HF2 ⊢
        clear hW3
        go_wp2_with fail
        go_ret2
        rw [← HR.out]
        rw [HPL.out] at hnc HOW ⊢
        exact ⟨_, _, _, rfl, ⟨hnc, hcm⟩, sl_ints HOW.out HWF.out, HF2.out⟩
      · obtain ⟨hg, hs1, hs2⟩ := enough_step h2 (by omega) HE.out
        have hm0 : decide ((ls.length : Int) < (D : Int)) = true := by simp; omega
        have hm1 : decide (ls.length < D) = true := by simp; omega
        obtain ⟨x', hx'⟩ : ∃ x', x' = nxt xx := ⟨_, rfl⟩
        have HXX : Hid (((xx : Int) * 1109 + 12345) % 65536 = (x' : Int)) := by rw [Hid, hx']; unfold nxt; omega
        obtain ⟨k, hk⟩ : ∃ k, k = x' / 7 % b := ⟨_, rfl⟩
        have hkb : k < b := by rw [hk]; exact Nat.mod_lt _ (by omega)
        have hx1 : Hid (x' < 65536) := by rw [hx']; exact nxt_lt xx
        have hx0 : (xx : Int) < 65536 := by have := HX.out; omega
        have hx2 : (x' : Int) < 65536 := by have := hx1.out; omega
        rw [← hx', ← hk] at hs1 hs2
        have HP' : Hid (pickHas id b = if has.getD k false then pickLoop b (gk - 1) x' mm has else pickLoop b (gk - 1) x' (mm - 1) (has.set k true)) := by
          rw [Hid, HP.out]
          conv => lhs; rw [show gk = (gk - 1) + 1 from by omega, pickLoop, if_neg h0, ← hx', ← hk]
        have hw7 : wrap64 ((x' : Int) / 7) = (x' : Int) / 7 := IntWalk.wrap64_in _ (by have := hx1.out; omega)
        have hke : ((x' : Int) / 7).tmod (b : Int) = (k : Int) := by rw [Int.tmod_eq_emod_of_nonneg (by omega), hk]; simp
        have hke2 : ((x' : Int) / 7) % (b : Int) = (k : Int) := by rw [hk]; simp
        have hb0 : ((b : Int) == 0) = false := by rw [beq_eq_false_iff_ne]; omega
        have hx7 : 0 ≤ (x' : Int) / 7 := by omega
        obtain ⟨A1, c1, rfl, ⟨hc1, hm2⟩, hsl⟩ := HO.out.slC sInt (by decide)
        have HSL := Lib.hid hsl
        have hlm : ls.length ≤ maxLen := by unfold maxLen; omega
        have hdec : Hid (decide ((k : Int) ∈ ls) = has.getD k false) := by
          have := HS.out.iff k (by omega)
          rw [Hid]
          cases hgk : has.getD k false
          · rw [hgk] at this; simp; intro e; have := this.2 e; cases this
          · rw [hgk] at this; simpa using this
        have HKE := Lib.hid (And.intro hke hke2)
        have HW7 := Lib.hid hw7
        clear HP HE hx' hk hsl hke hke2 hw7
        go_upto_region 16 with fail
        rw [HXX.out]
        have hke := HKE.out.1
        have hke2 := HKE.out.2
        have hw7 := HW7.out
        go_upto_region 17 with fail
        clear hke hke2 hw7
        go_wp2_with fail
        (with_reducible refine (containsInt_any _ _ _ _ _ ls (k : Int) HSL.out hlm).mono ?_)
        rw [hdec.out]
        rintro e w2 ⟨rfl, rfl⟩
        by_cases hh : has.getD k false = true
        · have HE' := Lib.hid (hs1 hh)
          have HR : Hid (pickHas id b = pickLoop b (gk - 1) x' mm has) := by rw [Hid, HP'.out, if_pos hh]
          rw [hh]
          clear hs1 hs2 hh HP' hdec
          go_wp2_with fail
          go_roundg (gk - 1)
          case measure => omega
          case rel => exact ⟨x', mm, has, ls, rfl, hml, hx1, HE', HS, HO, HR, HB⟩
        · have hh' : has.getD k false = false := by simpa using hh
          have HE' := Lib.hid (hs2 hh')
          have HR : Hid (pickHas id b = pickLoop b (gk - 1) x' (mm - 1) (has.set k true)) := by rw [Hid, HP'.out, if_neg hh]
          have HS' : Hid (Sel (has.set k true) (ls ++ [(k : Int)])) := HS.out.add (by omega) hh'
          have hwk : wfI (k : Int) := wfI.mk (by omega)
          have hml' : mm - 1 + (ls ++ [(k : Int)]).length = D := by simp; omega
          have hll : ls.length ≤ 24 := by omega
          rw [hh']
          clear hs1 hs2 hh HP' hdec hh'
          (have Hml' := Lib.hid hml'; clear hml')
          go_wp2_with (at_builtin; refine wpList_apps _ rfl _ _ 48 rfl w.heap.size 3 (.int .i64 0) 1 8 Try.underlying48 infoInt rfl (by decide) sInt _ ls rfl (HO.out.fr sInt (frAlloc _ _)) ⟨wr.heap.size, 0, none⟩ 1 1 [.int .i64 (k : Int)] rfl rfl (cell_one_new _ _ _) ?c2 [(k : Int)] rfl ?c3 ?c4 ?c5 ?c6 ?_)
          case c2 => intro u hu; simp at hu; subst hu; rfl
          case c3 =>
            intro i y hy
            obtain rfl : i = 0 := by have := (List.getElem?_eq_some_iff.1 hy).1; simp at this; omega
            obtain rfl : (k : Int) = y := by simpa using hy
            exact ⟨rfl, hwk⟩
          case c4 => unfold maxLen; omega
          case c5 => unfold lim; omega
          case c6 => have := HB.out.size; simp; omega
          · intro v' w3 hown' hg' hge
            have HO' := Lib.hid hown'
            have HB' : Hid (Fr w w3) := (frA HB.out _).grown hg' (by have := HB.out.size; simp; omega) hge
            clear hown' hg' hge
            go_wp2_with fail
            go_roundg (gk - 1)
            case measure => omega
            case rel => exact ⟨x', mm - 1, has.set k true, ls ++ [(k : Int)], rfl, Hml'.out, hx1, HE', HS', HO', HR, HB'⟩
end Go.Proofs.Ytnfjghldcopaaaa
namespace Go.Proofs.Ytnfjghldcopaaaa
open Go.RowKit

set_option maxHeartbeats 1000000 in
theorem picked_any (w : World) : Calls Try.prog 31 #[] w fun e w' => e = .returned (.bool true) ∧ Fr w w' := by
  have E1 : Hid (pickOf 1 3 = ([false, true, false], 0)) := by unfold Hid; decide +kernel
  have E2 : Hid ((pickOf 7 3).2 = 0 ∧ (pickOf 7 3).1.length = 3 ∧ cnt (pickOf 7 3).1 = 2) := by unfold Hid; decide +kernel
  obtain ⟨X, hX⟩ : ∃ X, X = (pickOf 7 3).1 := ⟨_, rfl⟩
  have E3 : Hid (pickOf 7 3 = (X, 0)) := by rw [Hid, hX, ← E2.out.1]
  have E4 : Hid (X.length = 3 ∧ cnt X = 2) := by rw [Hid, hX]; exact E2.out.2
  clear hX
  go_enter Try.func31, Try.ntmps31
  go_wp2_with fail
  refine (pickOf_any _ _ _).mono ?_
  rw [E1.out]
  rintro e w1 ⟨A1, n1, c1, rfl, hn1, _, hs1, hf1⟩
  obtain rfl : n1 = 3 := hs1.1.symm
  (have Hs1 := Lib.hid hs1; clear hs1; have Hf1 := Lib.hid hf1; clear hf1)
  go_wp2_with fail
  refine (pickOf_any _ _ _).mono ?_
  rw [E3.out]
  rintro e w2 ⟨A2, n2, c2, rfl, hn2, _, hs2, hf2⟩
  obtain rfl : n2 = 3 := by rw [← hs2.1]; exact E4.out.1
  (have Hs2 := Lib.hid hs2; clear hs2; have Hf2 := Lib.hid hf2; clear hf2)
  go_wp2_with fail
  go_loop [5, 18] (fun n i => ∃ k : Nat, k ≤ 3 ∧ i = .int .i64 k ∧ n = .int .i64 (cnt (X.take k) : Nat)) (fun _ i => 3 - (intOf i).toNat)
  case atStart => exact ⟨0, Nat.zero_le _, rfl, rfl⟩
  case round =>
    obtain ⟨k, hk, rfl, rfl⟩ := hrel
    by_cases hlt : k < 3
    · obtain ⟨ad, rfl, hE⟩ := Hs2.out.els (by omega)
      obtain ⟨b, hb, hc⟩ := hE.bool hlt
      have HC := Lib.hid (cnt_take hb)
      have hcl : cnt (X.take k) ≤ 3 := Nat.le_trans (cnt_le _) (by rw [List.length_take]; omega)
      obtain ⟨q, hq⟩ : ∃ q, q = cnt (X.take k) := ⟨_, rfl⟩
      rw [← hq] at hcl
      rw [← hq]
      have HQ := Lib.hid hq
      clear hb hq
      cases b
      all_goals
        go_wp2
        go_round
        case rel => exact ⟨k + 1, by omega, by go_num, by rw [HC.out, ← HQ.out]; go_num⟩
        case measure => simp [intOf]; omega
    · obtain rfl : k = 3 := by omega
      have hq : Hid (cnt (X.take 3) = 2) := by rw [Hid, List.take_of_length_le (by rw [E4.out.1]; omega)]; exact E4.out.2
      rw [hq.out]
      go_wp2_with fail
      refine (equalBools_any _ _ Any _ _ _ _ _ _ [false, true, false] [false, true, false] (Hs1.out.go sBool (by (repeat' (first | exact Below.refl _ _ | refine below_drewN ?_ _ | refine Below.drew ?_ | refine frA ?_ _ | refine Fr.trans ?_ Hf3.out | refine Fr.trans ?_ Hf2.out | refine Fr.trans ?_ Hf1.out)))) ?_ (by decide)).mono ?_
      · apply Sl.litBools (hS := trivial) (hn := rfl)
        · (repeat' (first | (refine heap_new ?_; (first | (simp; done) | rfl); done) | refine heap_dn ?_ | refine heap_d ?_ | refine heap_old ?_))
        · rfl
      · rintro e w3 ⟨rfl, m, rfl⟩
        go_wp2_with fail
        go_ret
        exact ⟨rfl, (by (repeat' (first | exact Below.refl _ _ | refine below_drewN ?_ _ | refine Below.drew ?_ | refine frA ?_ _ | refine Fr.trans ?_ Hf3.out | refine Fr.trans ?_ Hf2.out | refine Fr.trans ?_ Hf1.out)))⟩

end Go.Proofs.Ytnfjghldcopaaaa
namespace Go.Proofs.Ytnfjghldcopaaaa
open Go.RowKit
attribute [local irreducible] wpList

set_option maxHeartbeats 400000 in
theorem refPicked_any (w : World) (id b : Int) :
    Calls Try.prog 30 #[.int .i64 id, .int .i64 b] w fun e w' => ∃ A n c, e = .returned (.tuple #[.slice A n c, .int .i64 (pickedR id b).2]) ∧ (n ≤ c ∧ c ≤ maxLen) ∧ Sl 1 eInt w' (LT w'.heap.size) A n (pickedR id b).1 ∧ Fr w w' := by
  by_cases h : 0 ≤ id ∧ id ≤ 9999 ∧ 1 ≤ b ∧ b ≤ 24
  · have E : pickedR id b = (selIdx (pickHas id.toNat b.toNat), 0) := if_pos h
    rw [E]
    obtain ⟨i, rfl⟩ := Int.eq_ofNat_of_zero_le h.1
    obtain ⟨m, rfl⟩ := Int.eq_ofNat_of_zero_le (show 0 ≤ b by omega)
    simp only [Int.toNat_natCast]
    by_cases hlt : i < m
    · have r1 : inR i 0 9999 = true := inR_t (by omega)
      have r2 : inR m 1 24 = true := inR_t (by omega)
      have e1 : selIdx (pickHas i m) = [(i : Int)] := by unfold pickHas; rw [if_pos hlt]; exact selIdx_one hlt
      have hwi : wfI (i : Int) := wfI.mk (by omega)
      rw [e1]
      clear E e1
      (have Hwi := Lib.hid hwi; clear hwi)
      go_enter Try.func30, Try.ntmps30
      go_wp2_with (go_at_call 61; refine (in_any _ _ _ _).mono ?_; rintro e w' ⟨rfl, rfl⟩)
      go_ret2
      refine ⟨_, _, _, rfl, ⟨Nat.le_refl _, by unfold maxLen; omega⟩, Sl.litInts (heap_new rfl) (by simp [LT]) rfl ?_ rfl, frAlloc _ _⟩
      intro x hx
      obtain rfl : x = (i : Int) := by simpa using hx
      exact Hwi.out
    · exact refPicked_more w i m (by omega) (by omega) (by omega) (by omega)
  · have E : pickedR id b = ([], 3) := if_neg h
    rw [E]
    by_cases h1 : 0 ≤ id ∧ id ≤ 9999
    · have r1 : inR id 0 9999 = true := inR_t h1
      have r2 : inR b 1 24 = false := inR_f (by omega)
      clear E h h1
      go_enter Try.func30, Try.ntmps30
      go_wp2_with (go_at_call 61; refine (in_any _ _ _ _).mono ?_; rintro e w' ⟨rfl, rfl⟩)
      go_ret2
      exact ⟨_, _, _, rfl, ⟨Nat.le_refl _, by unfold maxLen; omega⟩, Sl.nil, Below.refl _ _⟩
    · have r1 : inR id 0 9999 = false := inR_f h1
      clear E h h1
      go_enter Try.func30, Try.ntmps30
      go_wp2_with (go_at_call 61; refine (in_any _ _ _ _).mono ?_; rintro e w' ⟨rfl, rfl⟩)
      go_ret2
      exact ⟨_, _, _, rfl, ⟨Nat.le_refl _, by unfold maxLen; omega⟩, Sl.nil, Below.refl _ _⟩

theorem picked_has {X : List Bool} {k : Nat} {b : Bool} (h : X[k]? = some b) : decide ((k : Int) ∈ selIdx X) = b := by
  have hk := (List.getElem?_eq_some_iff.1 h).1
  have h1 := (Sel.idx X).iff k hk
  rw [List.getD_eq_getElem?_getD, h] at h1
  cases b
  · simp at h1; simpa using h1
  · simp at h1; simpa using h1

set_option maxHeartbeats 400000 in
theorem pickSays_any (w : World) (id : Int) (wi : wfI id) (many : Int) (wm : wfI many) :
    Calls Try.prog 6 #[.int .i64 id, .int .i64 many] w fun e w' => e = .returned (.bool true) ∧ Fr w w' := by
  by_cases h : 0 ≤ id ∧ id ≤ 9999 ∧ 1 ≤ many ∧ many ≤ 24
  · obtain ⟨i, rfl⟩ := Int.eq_ofNat_of_zero_le h.1
    obtain ⟨m, rfl⟩ := Int.eq_ofNat_of_zero_le (show 0 ≤ many by omega)
    obtain ⟨X, hX⟩ : ∃ X, X = pickHas i m := ⟨_, rfl⟩
    have E : Hid (pickOf i m = (X, 0)) := by rw [Hid, hX]; exact if_pos h
    have E2 : Hid (pickedR i m = (selIdx X, 0)) := by rw [Hid, hX]; exact if_pos h
    have hXl : Hid (X.length = m) := by rw [Hid, hX]; exact length_pickHas i m
    have hm : 1 ≤ m ∧ m ≤ 24 := by omega
    obtain ⟨hm1, hm2⟩ := hm
    (have HX := Lib.hid hX; clear hX; have H := Lib.hid h; clear h)
    clear wi wm
    go_enter Try.func6, Try.ntmps6
    go_wp2_with fail
    (with_reducible refine (pickOf_any _ _ _).mono ?_)
    rw [E.out]
    rintro e w1 ⟨A1, n1, c1, rfl, _, _, hs1, hf1⟩
    obtain rfl : n1 = m := hs1.1.symm.trans hXl.out
    (have Hs1 := Lib.hid hs1; clear hs1; have Hf1 := Lib.hid hf1; clear hf1)
    go_wp2_with fail
    (with_reducible refine (refPicked_any _ _ _).mono ?_)
    rw [E2.out]
    rintro e w2 ⟨A2, n2, c2, rfl, ⟨hc2, hx2⟩, hs2, hf2⟩
    (have Hs2 := Lib.hid hs2; clear hs2; have Hf2 := Lib.hid hf2; clear hf2)
    go_wp2_with fail
    (with_reducible refine (picked_any _).mono ?_)
    rintro e w3 ⟨rfl, hf3⟩
    have hs1' := Hs1.out.go sBool (Hf2.out.trans hf3)
    have hs2' := Hs2.out.go sInt hf3
    have hn2 : n2 ≤ maxLen := by omega
    (have Hf3 := Lib.hid hf3; clear hf3; have Hs1' := Lib.hid hs1'; clear hs1'; have Hs2' := Lib.hid hs2'; clear hs2')
    go_wp2_with fail
    go_loop [51] (fun i => ∃ k : Nat, k ≤ n1 ∧ i = .int .i64 k) (fun i => n1 - (intOf i).toNat)
    case atStart => exact ⟨0, Nat.zero_le _, rfl⟩
    case round =>
      obtain ⟨k, hk, rfl⟩ := hrel
      by_cases hlt : k < n1
      · obtain ⟨ad, rfl, hE⟩ := Hs1'.out.els (by omega)
        obtain ⟨b, hb, hc⟩ := hE.bool hlt
        have HD := Lib.hid (picked_has hb)
        clear hb
        go_wp2_with fail
        (with_reducible refine (containsInt_any _ _ _ _ _ (selIdx X) (k : Int) Hs2'.out hn2).mono ?_)
        rw [HD.out]
        rintro e w4 ⟨rfl, rfl⟩
        cases b
        all_goals
          go_wp2_with fail
          go_round
          case rel => exact ⟨k + 1, by omega, by go_num⟩
          case measure => simp [intOf]; omega
      · obtain rfl : k = n1 := by omega
        go_wp2_with fail
        go_ret
        exact ⟨rfl, (by (repeat' (first | exact Below.refl _ _ | refine below_drewN ?_ _ | refine Below.drew ?_ | refine frA ?_ _ | refine Fr.trans ?_ Hf3.out | refine Fr.trans ?_ Hf2.out | refine Fr.trans ?_ Hf1.out)))⟩
  · have E : Hid (pickOf id many = ([], 3)) := if_neg h
    have E2 : Hid (pickedR id many = ([], 3)) := if_neg h
    clear h wi wm
    go_enter Try.func6, Try.ntmps6
    go_wp2_with fail
    (with_reducible refine (pickOf_any _ _ _).mono ?_)
    rw [E.out]
    rintro e w1 ⟨A1, n1, c1, rfl, _, _, hs1, hf1⟩
    obtain rfl : n1 = 0 := hs1.1.symm
    (have Hs1 := Lib.hid hs1; clear hs1; have Hf1 := Lib.hid hf1; clear hf1)
    go_wp2_with fail
    (with_reducible refine (refPicked_any _ _ _).mono ?_)
    rw [E2.out]
    rintro e w2 ⟨A2, n2, c2, rfl, ⟨hc2, hx2⟩, hs2, hf2⟩
    (have Hs2 := Lib.hid hs2; clear hs2; have Hf2 := Lib.hid hf2; clear hf2)
    go_wp2_with fail
    (with_reducible refine (picked_any _).mono ?_)
    rintro e w3 ⟨rfl, hf3⟩
    (have Hf3 := Lib.hid hf3; clear hf3)
    go_wp2_with fail
    (with_reducible refine (picked_any _).mono ?_)
    rintro e w4 ⟨rfl, hf4⟩
    (have Hf4 := Lib.hid hf4; clear hf4)
    go_wp2_with fail
    go_ret
    exact ⟨rfl, (by (repeat' (first | exact Below.refl _ _ | refine below_drewN ?_ _ | refine Below.drew ?_ | refine frA ?_ _ | refine Fr.trans ?_ Hf4.out | refine Fr.trans ?_ Hf3.out | refine Fr.trans ?_ Hf2.out | refine Fr.trans ?_ Hf1.out)))⟩
end Go.Proofs.Ytnfjghldcopaaaa
namespace Go.Proofs.Ytnfjghldcopaaaa
open Go.RowKit


theorem at_any (w : World) (k : Int) (n : Nat) (hn : 0 < n) (hn2 : n ≤ lim) : Calls Try.prog 36 #[.int .i64 k, .int .i64 n] w fun e w' => e = .returned (.int .i64 (k % (n : Int))) ∧ w = w' := by
  unfold lim at hn2
  have h0 : ((n : Int) == 0) = false := by rw [beq_eq_false_iff_ne]; omega
  have h1 := Int.emod_nonneg k (show (n : Int) ≠ 0 by omega)
  have h2 := Int.emod_lt_of_pos k (show (0 : Int) < n by omega)
  have h3 : k.tmod n = k % n ∨ (k.tmod n = k % n - n ∧ k % n ≠ 0) := by
    have e := Int.tmod_eq_emod (a := k) (b := (n : Int))
    split at e
    · left; omega
    · rename_i hd
      exact .inr ⟨by omega, fun h => hd (.inr (Int.dvd_of_emod_eq_zero h))⟩
  obtain ⟨q, hq⟩ : ∃ q, q = k % (n : Int) := ⟨_, rfl⟩
  rw [← hq] at h1 h2 h3
  rw [← hq]
  clear hq
  rcases h3 with h3 | ⟨h3, hq0⟩
  · have hlt : decide (q < 0) = false := by simp; omega
    go_enter Try.func36, Try.ntmps36
    go_wp2
    go_ret
    exact ⟨rfl, rfl⟩
  · have hlt : decide (q - (n : Int) < 0) = true := by simp; omega
    go_enter Try.func36, Try.ntmps36
    go_wp2
    go_ret
    exact ⟨retI (by omega), rfl⟩

theorem enters {P : Program} {f : FuncId} {fn : Func} (hf : P.funcs[f]? = some fn) (hn : (fn.name == "runtime.NumGoroutine") = false) (hb : fn.body.isNone = false) (args : Array Value) (W : World) : (callFunc f args).run P W = .ok (.enter f args) W := by
  have h1 : fn.name ≠ "runtime.NumGoroutine" := by simpa using hn
  have h2 : fn.body ≠ none := by intro e; rw [e] at hb; simp at hb
  simp [callFunc, hf, h1, h2]
end Go.Proofs.Ytnfjghldcopaaaa
namespace Go.Proofs.Ytnfjghldcopaaaa
open Go.RowKit
attribute [local irreducible] wpList

theorem infoSym : (Try.prog.info? 53).map (fun i => (i.zero, i.size, i.bytes)) = some (some (.agg #[.int .i64 0, .slice none 0 0]), 2, 32) := by kernel_rfl

set_option maxRecDepth 100000 in
set_option maxHeartbeats 2000000 in
theorem symbols_any (w : World) (B K : Int) (wB : wfI B) (wK : wfI K) (A : Option Addr) (n c : Nat) (cargo : List UInt8) (h : Sl 1 eByte w (LT w.heap.size) A n cargo) (hnc : n ≤ c) (hcm : c ≤ maxLen) (A2 : Option Addr) (n2 c2 : Nat) (ids : List Int) (h2 : Sl 1 eInt w (LT w.heap.size) A2 n2 ids) (hnc2 : n2 ≤ c2) (hcm2 : c2 ≤ maxLen) :
    Calls Try.prog 28 #[.agg #[.int .i64 B, .int .i64 K], .slice A n c, .slice A2 n2 c2] w fun e w' => ∃ v, e = .returned v ∧ Own 2 (eHi w.heap.size eSm) w' w.heap.size 53 v (symsOf B K cargo ids) ∧ Fr w w' := by
  obtain ⟨m, hm⟩ : ∃ m, m = min n2 60 := ⟨_, rfl⟩
  have hm1 : m ≤ 60 := by omega
  have hm2 : m ≤ n2 := by omega
  have hm3 : m ≤ c2 := by omega
  have hmi : min (n2 : Int) 60 = (m : Int) := by omega
  have h3 := h2.pre (k := m) hm2
  have htk : Hid (ids.take m = ids.take 60) := by
    have := h2.1
    rw [Hid, hm]
    rcases Nat.le_total n2 60 with h0 | h0
    · rw [Nat.min_eq_left h0, List.take_of_length_le (by omega), List.take_of_length_le (by omega)]
    · rw [Nat.min_eq_right h0]
  rw [htk.out] at h3
  unfold maxLen at hcm2
  (have H := Lib.hid h; clear h; have H3 := Lib.hid h3; clear h3; have Hm := Lib.hid hm; clear hm)
  clear h2
  have HW1 : Hid ((w.alloc (.cells #[.int .i64 B, .int .i64 K] 47)).heap[w.heap.size]? = some (.cells #[.int .i64 B, .int .i64 K] 47 (0, 0))) := heap_new rfl
  obtain ⟨W1, hW1⟩ : ∃ W1, W1 = w.alloc (.cells #[.int .i64 B, .int .i64 K] 47) := ⟨_, rfl⟩
  have HF1 : Hid (Fr w W1) := by rw [hW1]; exact frAlloc _ _
  rw [← hW1] at HW1
  have HWE := Lib.hid hW1
  clear hW1
  go_enter Try.func28, Try.ntmps28
  go_upto_region 2 with fail
  go_cut [16, 17, 18] (fun s16 s17 s18 wx => s16 = .slice A2 m c2 ∧ s17 = .int .i64 m ∧ s18 = .int .i64 0 ∧ wx = w.alloc (.cells #[.int .i64 B, .int .i64 K] 47))
  case first =>
    by_cases hle : n2 ≤ 60
    · obtain rfl : m = n2 := by have := Hm.out; omega
      go_wp2_with fail
      go_meet
      exact ⟨rfl, rfl, rfl, rfl⟩
    · obtain rfl : m = 60 := by have := Hm.out; omega
      go_wp2_with fail
      go_meet
      exact ⟨rfl, rfl, rfl, rfl⟩
  case rest =>
    obtain ⟨rfl, rfl, rfl, rfl⟩ := hcut
    rw [← HWE.out]
    clear HWE
    go_wp2_with fail
    go_loopw [7, 18] (fun s7 s18 wr => ∃ k : Nat, k ≤ m ∧ s18 = .int .i64 k ∧ Hid (Own 2 (eHi W1.heap.size eSm) wr W1.heap.size 53 s7 (((ids.take 60).take k).flatMap (symOpt B K cargo))) ∧ Hid (Fr W1 wr)) (fun _ i _ => m - (intOf i).toNat)
    case atStart => exact ⟨0, Nat.zero_le _, rfl, Own.nil, Below.refl _ _⟩
    case round =>
      obtain ⟨k, hk, rfl, HO, HF⟩ := hrel
      by_cases hlt : k < m
      · obtain ⟨ad, rfl, hE⟩ := H3.out.els (by omega)
        obtain ⟨id, hid, hc, wid⟩ := hE.int hlt
        have hpb := hE.2.1
        have hc2 : wr.cell? (ad.add k) = some (.int .i64 id) := ((HF1.out.trans HF.out).cell (by rw [block_of_add]; exact hpb)).trans hc
        have HN : Hid (((ids.take 60).take (k + 1)).flatMap (symOpt B K cargo) = ((ids.take 60).take k).flatMap (symOpt B K cargo) ++ symOpt B K cargo id) := flat_snoc hid
        have hle : (((ids.take 60).take k).flatMap (symOpt B K cargo)).length ≤ k := by
          have := length_flat B K cargo ((ids.take 60).take k)
          have h2 : ((ids.take 60).take k).length ≤ k := by rw [List.length_take]; omega
          omega
        obtain ⟨L, hL⟩ : ∃ L, L = ((ids.take 60).take k).flatMap (symOpt B K cargo) := ⟨_, rfl⟩
        rw [← hL] at HO HN hle
        obtain ⟨q, hq⟩ : ∃ q, q = id % 10000 := ⟨_, rfl⟩
        obtain ⟨mi, md, me, hME⟩ : ∃ mi md me, makeSym B K cargo q = ((mi, md), me) := ⟨_, _, _, rfl⟩
        have HS : Hid (symOpt B K cargo id = if me = 0 then [⟨mi, md⟩] else []) := by
          unfold symOpt Hid; rw [← hq, hME]
        have CM := Lib.hid (fun W A n c h hn hc => codeMake_nw W A n c B K cargo q h hn hc wB wK)
        rw [hME] at CM
        have wmi : Hid (wfI mi) := by
          have : mi = 0 ∨ mi = q := by
            have e : (makeSym B K cargo q).1.1 = mi := by rw [hME]
            rw [← e]; unfold makeSym
            repeat' split
            all_goals simp
          rcases this with rfl | rfl
          · exact wfI.mk (by omega)
          · exact wfI.mk (by rw [hq]; omega)
        have HB0 := blk_go HW1.out HF.out
        (obtain ⟨x0, x1⟩ := box2_ HB0)
        have hbl := (Array.getElem?_eq_some_iff.1 HB0).1
        have HAT : Hid (∀ W : World, Calls Try.prog 36 #[.int .i64 id, .int .i64 10000] W fun e w' => e = .returned (.int .i64 q) ∧ W = w') := fun W => by
          have := at_any W id 10000 (by decide) (by decide)
          rw [hq]; exact this
        have HB : Hid (wr.drew.heap[w.heap.size]? = some (.cells #[.int .i64 B, .int .i64 K] 47 (0, 0))) := HB0
        have HBW := Lib.hid HB0
        have NE : wr.heap.size ≠ w.heap.size := by omega
        have HG : Hid (Fr wr wr.drew) := (Below.refl _ _).drew
        have HC := Lib.hid (H.out.go sByte (HF1.out.trans HF.out))
        clear hid hc hE hq hME HB0 hL
        go_upto_region 5 with fail
        go_cut [10, 11] (fun s10 s11 wx => ∃ A' n' c' g, s10 = .pointer (some ⟨g, 0, none⟩) ∧ s11 = .int .i64 me ∧ Hid (wx.heap[g]? = some (.cells #[.int .i64 mi, .slice A' n' c'] 53 (0, 0))) ∧ (n' ≤ 16 ∧ n' ≤ c' ∧ c' ≤ 16) ∧ Hid (Sl 1 eByte wx (NW wr.heap.size wx.heap.size) A' n' md) ∧ Hid (Fr wr wx))
        case first =>
          go_region_held3 (fun w' => w'.cell? ⟨w.heap.size, 0, none⟩ = some (.int .i64 B) ∧ w'.cell? ⟨w.heap.size, 1, none⟩ = some (.int .i64 K)) (first | exact box2_ HB.out | exact box2_ (heap_old HB.out) | exact ⟨(set2_far NE).trans (cell_of_heap HB.out), (set2_far NE).trans (cell_of_heap HB.out)⟩ | go_keep)
            (first
              | (go_at_call 36; (with_reducible refine (HAT.out _).mono ?_); rintro e w5 ⟨rfl, rfl⟩)
              | (go_at_call 43; (with_reducible refine (CM.out wr.drew _ _ _ (HC.out.go sByte HG.out) hnc hcm).mono ?_); rintro e w5 ⟨A5, n5, c5, rfl, hn5, _, hs5, hf5⟩; have HS5 := Lib.hid hs5; have HG5 := Lib.hid (HG.out.trans hf5); have HB := Lib.hid (blk_go HB.out hf5); clear hs5 hf5)
              | (go_at_call 43; (with_reducible refine (CM.out (wr.alloc (.cells #[.int .i64 0, .slice none 0 0] 53)).drew _ _ _ (HC.out.go sByte (frAlloc wr _).drew) hnc hcm).mono ?_); rintro e w5 ⟨A5, n5, c5, rfl, hn5, _, hs5, hf5⟩; have HS5 := Lib.hid hs5; have HG5 := Lib.hid (Fr.trans (frAlloc wr _).drew hf5); have HB := Lib.hid (blk_go (heap_d (w := wr.alloc (.cells #[.int .i64 0, .slice none 0 0] 53)) (heap_old HBW.out)) hf5); have hgz := blk_go (heap_d (w := wr.alloc (.cells #[.int .i64 0, .slice none 0 0] 53)) (heap_new (b := wr.heap.size) rfl)) hf5; have HGZ := Lib.hid hgz; have y0 := cell_of_heap (i := 0) hgz; have y1 := cell_of_heap (i := 1) hgz; have v0 := blk_free (i := 0) hgz; have v1 := blk_free (i := 1) hgz; have hgzl := (Array.getElem?_eq_some_iff.1 hgz).1; clear hs5 hf5 hgz)
              | fail)
          all_goals first
            | (have hA5 : Hid (Sl 1 eByte (w5.alloc (.cells #[.int .i64 mi, .slice A5 n5 c5] 53)) (NW wr.heap.size (w5.alloc (.cells #[.int .i64 mi, .slice A5 n5 c5] 53)).heap.size) A5 n5 md) :=
                (HS5.out.keep sByte fun p hp => (frAlloc w5 _).cell hp.2).more sByte fun b hb => ⟨hb.1, Nat.lt_of_lt_of_le hb.2 (frAlloc w5 _).size⟩
               have hA6 : Hid (Fr wr (w5.alloc (.cells #[.int .i64 mi, .slice A5 n5 c5] 53))) := HG5.out.trans (frAlloc _ _)
               go_wp2_with fail
               go_meet
               exact ⟨A5, n5, c5, _, rfl, rfl, heap_new rfl, hn5, hA5, hA6⟩)
            | (have hst : Hid (((w5.setCell ⟨wr.heap.size, 0, none⟩ (.int .i64 mi)).setCell ⟨wr.heap.size, 1, none⟩ (.slice A5 n5 c5)).heap[wr.heap.size]? = some (.cells #[.int .i64 mi, .slice A5 n5 c5] 53 (0, 0))) := stor2_ HGZ.out
               have hA5 : Hid (Sl 1 eByte ((w5.setCell ⟨wr.heap.size, 0, none⟩ (.int .i64 mi)).setCell ⟨wr.heap.size, 1, none⟩ (.slice A5 n5 c5)) (NW wr.heap.size ((w5.setCell ⟨wr.heap.size, 0, none⟩ (.int .i64 mi)).setCell ⟨wr.heap.size, 1, none⟩ (.slice A5 n5 c5)).heap.size) A5 n5 md) :=
                (((HS5.out.stored sByte (p := ⟨wr.heap.size, 0, none⟩) (by simp) (.int .i64 mi)).stored sByte (p := ⟨wr.heap.size, 1, none⟩) (by simp) (.slice A5 n5 c5))).more sByte fun b hb => ⟨by have := hb.1; simp at this; omega, by rw [size_setCell, size_setCell]; exact hb.2⟩
               have hA6 : Hid (Fr wr ((w5.setCell ⟨wr.heap.size, 0, none⟩ (.int .i64 mi)).setCell ⟨wr.heap.size, 1, none⟩ (.slice A5 n5 c5))) := bel2_ HG5.out (Nat.le_refl _)
               go_wp2_with fail
               go_meet
               exact ⟨A5, n5, c5, _, rfl, rfl, hst, hn5, hA5, hA6⟩)
        case rest =>
          obtain ⟨A', n', c', g, rfl, rfl, HG2, ⟨hn1, hc1, hc3⟩, HS2, HF2⟩ := hcut
          obtain ⟨W5, rfl⟩ : ∃ W5, W5 = wc := ⟨_, rfl⟩
          have hwc : w.heap.size ≤ wr.heap.size := (HF1.out.trans HF.out).size
          have HO5 := Lib.hid (HO.out.fr (sSm.hi _) HF2.out)
          have HF5 : Hid (Fr W1 W5) := HF.out.trans HF2.out
          by_cases he : me = 0
          · subst he
            have HN2 : Hid (((ids.take 60).take (k + 1)).flatMap (symOpt B K cargo) = L ++ [⟨mi, md⟩]) := by rw [Hid, HN.out, HS.out, if_pos rfl]
            have hg2 := HG2.out
            (obtain ⟨z0, z1⟩ := box2_ hg2)
            clear hg2
            have hrd : Hid (eHi W1.heap.size eSm W5 (fun b => b < W5.heap.size ∧ u7.ownBlock ≠ some b) (fun j => [Value.int .i64 mi, .slice A' n' c'][j]?) ⟨mi, md⟩) := by
              refine eSm_iff.2 ⟨A', n', c', ⟨rfl, rfl⟩, wmi.out, ⟨by unfold lim; omega, hc1, by unfold maxLen; omega⟩, HS2.out.more sByte fun b hb => ⟨⟨hb.2, fun e => ?_⟩, Nat.le_trans HF.out.size hb.1⟩⟩
              obtain ⟨cs, ho, _⟩ := HO.out
              have := (ho.lt b e).2
              have := hb.1
              omega
            have hLs : (L.length + 1) * 32 ≤ lim := by unfold lim; omega
            have hLm : L.length + 1 ≤ maxLen := by unfold maxLen; omega
            have hone : ∀ u ∈ [Value.int .i64 mi, .slice A' n' c'], u.oneCell' = true := by intro u hu; simp at hu; rcases hu with rfl | rfl <;> rfl
            have hbb : W1.heap.size ≤ W5.heap.size := HF5.out.size
            have HONE := Lib.hid hone
            clear hone
            go_wp2_with (at_builtin; refine wpList_app1 rfl _ _ 50 rfl W1.heap.size 53 (.agg #[.int .i64 0, .slice none 0 0]) 32 Try.underlying50 infoSym rfl (by decide) (sSm.hi _) W5 (frAlloc _ _) _ L rfl HO5.out W5.heap.size [.int .i64 mi, .slice A' n' c'] 53 (0, 0) rfl (heap_new rfl) rfl HONE.out ⟨mi, md⟩ hrd.out hLm hLs W1.heap.size W1 HF5.out (Nat.le_refl _) hbb ?_)
            intro v' w3 HO3 HF3
            rw [← HN2.out] at HO3
            clear z0 z1
            go_wp2_with fail
            go_roundw
            case rel => exact ⟨k + 1, by omega, by go_num, HO3, HF3⟩
            case measure => simp [intOf]; omega
          · have hme : (me == 0) = false := by simp [he]
            have HN2 : Hid (((ids.take 60).take (k + 1)).flatMap (symOpt B K cargo) = L) := by rw [Hid, HN.out, HS.out, if_neg he, List.append_nil]
            clear he
            go_wp2_with fail
            go_roundw
            case rel => exact ⟨k + 1, by omega, by go_num, by rw [HN2.out]; exact HO5, HF5⟩
            case measure => simp [intOf]; omega
      · obtain rfl : k = m := by omega
        have HE : Hid (((ids.take 60).take k).flatMap (symOpt B K cargo) = symsOf B K cargo ids) := by
          rw [Hid, List.take_of_length_le (by rw [H3.out.1]; exact Nat.le_refl _)]; rfl
        rw [HE.out] at HO
        go_wp2_with fail
        go_ret
        exact ⟨_, rfl, (HO.out.lower HF1.out.size).hiLower sSm HF1.out.size, HF1.out.trans HF.out⟩
end Go.Proofs.Ytnfjghldcopaaaa
namespace Go.Proofs.Ytnfjghldcopaaaa
open Go.RowKit

/-- Pairs of cells, laid out. -/
def prs (ps : List (Value × Value)) : List Value := ps.flatMap fun p => [p.1, p.2]
theorem prs_len (ps : List (Value × Value)) : (prs ps).length = ps.length * 2 := by
  induction ps with
  | nil => rfl
  | cons p ps ih => unfold prs at ih ⊢; simp only [List.flatMap_cons, List.length_append, List.length_cons, List.length_nil, ih]; omega
theorem prs_get {ps : List (Value × Value)} {k : Nat} {p : Value × Value} (h : ps[k]? = some p) : (prs ps)[k * 2]? = some p.1 ∧ (prs ps)[k * 2 + 1]? = some p.2 := by
  induction ps generalizing k with
  | nil => simp at h
  | cons q ps ih =>
    cases k with
    | zero => simp at h; subst h; exact ⟨rfl, rfl⟩
    | succ k =>
      have := ih (k := k) (by simpa using h)
      have e : prs (q :: ps) = q.1 :: q.2 :: prs ps := rfl
      rw [e, show (k + 1) * 2 = k * 2 + 1 + 1 from by omega]
      exact this
theorem prs_set (ps : List (Value × Value)) (k : Nat) (p : Value × Value) : prs (ps.set k p) = ((prs ps).set (k * 2) p.1).set (k * 2 + 1) p.2 := by
  induction ps generalizing k with
  | nil => rfl
  | cons q ps ih =>
    have e : prs (q :: ps) = q.1 :: q.2 :: prs ps := rfl
    cases k with
    | zero => rfl
    | succ k =>
      have e2 : prs ((q :: ps).set (k + 1) p) = q.1 :: q.2 :: prs (ps.set k p) := rfl
      rw [e2, e, ih, show (k + 1) * 2 = k * 2 + 1 + 1 from by omega]
      rfl
theorem prs_of {cs : List Value} {n : Nat} (h : cs.length = n * 2) : ∃ ps : List (Value × Value), ps.length = n ∧ prs ps = cs := by
  induction n generalizing cs with
  | zero => exact ⟨[], rfl, (List.eq_nil_of_length_eq_zero (by omega)).symm⟩
  | succ n ih =>
    match cs, h with
    | a :: b :: cs, h =>
      obtain ⟨ps, h1, h2⟩ := ih (cs := cs) (by simp only [List.length_cons] at h; omega)
      exact ⟨(a, b) :: ps, by simp [h1], by rw [← h2]; rfl⟩
    | [a], h => simp only [List.length_cons, List.length_nil] at h; omega
    | [], h => simp only [List.length_nil] at h; omega
theorem cells_set2 {w : World} {g i : Nat} {t : TypeId} {ps : List (Value × Value)} {rest : List Value} {p : Value × Value} (h : w.heap[g]? = some (.cells (prs ps ++ rest).toArray t (0, 0))) (hi : i < ps.length) :
    ((w.setCell ⟨g, i * 2, none⟩ p.1).setCell ⟨g, i * 2 + 1, none⟩ p.2).heap[g]? = some (.cells (prs (ps.set i p) ++ rest).toArray t (0, 0)) := by
  rw [prs_set]
  exact cells_set (cells_set h (by rw [prs_len]; omega)) (by rw [List.length_set, prs_len]; omega)

set_option maxRecDepth 100000 in
set_option maxHeartbeats 1000000 in
theorem reverse_sym (w : World) (g n cap : Nat) (t : TypeId) (ps : List (Value × Value)) (rest : List Value) (hg : w.heap[g]? = some (.cells (prs ps ++ rest).toArray t (0, 0))) (hn : ps.length = n) (hm : n ≤ lim) (hsl : ∀ p ∈ ps, ∃ i A m c, p = (.int .i64 i, .slice A m c)) :
    Calls Try.prog 39 #[.slice (some ⟨g, 0, none⟩) n cap] w fun e w' => e = .returned (.tuple #[]) ∧ w'.heap[g]? = some (.cells (prs ps.reverse ++ rest).toArray t (0, 0)) ∧ w.grownBy w' (some g) := by
  unfold lim at hm
  go_enter Try.func39, Try.ntmps39
  go_wp2_with fail
  go_loopw [2, 3] (fun i j wr => ∃ (k : Nat) (ds : List (Value × Value)), 2 * k ≤ n + 1 ∧ i = .int .i64 k ∧ j = .int .i64 ((n : Int) - 1 - k) ∧ Hid (TurnTo ps ds n k) ∧ Hid (wr.heap[g]? = some (.cells (prs ds ++ rest).toArray t (0, 0))) ∧ Hid (w.grownBy wr (some g))) (fun i j _ => n - (intOf i).toNat)
  case atStart => exact ⟨0, ps, by omega, rfl, by simp, TurnTo.zero hn, hg, ⟨rfl, rfl, rfl, Nat.le_refl _, fun _ _ _ => rfl⟩⟩
  case round =>
    obtain ⟨k, ds, hk, rfl, rfl, HT, HG, HW⟩ := hrel
    by_cases hlt : 2 * k + 1 < n
    · obtain ⟨jn, hjn⟩ : ∃ jn : Nat, jn = n - 1 - k := ⟨_, rfl⟩
      have hji : (n : Int) - 1 - k = jn := by omega
      rw [hji]
      obtain ⟨x, hx⟩ : ∃ x, ds[k]? = some x := ⟨_, List.getElem?_eq_getElem (by rw [HT.out.1]; omega)⟩
      obtain ⟨y, hy⟩ : ∃ y, ds[jn]? = some y := ⟨_, List.getElem?_eq_getElem (by rw [HT.out.1]; omega)⟩
      have hx' := HT.out.2 k (by omega)
      have hy' := HT.out.2 jn (by omega)
      rw [hx, if_neg (by omega)] at hx'
      rw [hy, if_neg (by omega)] at hy'
      obtain ⟨i1, A1, m1, d1, rfl⟩ := hsl x (List.mem_of_getElem? hx'.symm)
      obtain ⟨i2, A2, m2, d2, rfl⟩ := hsl y (List.mem_of_getElem? hy'.symm)
      clear hx' hy'
      obtain ⟨gx, gx1⟩ := prs_get hx
      obtain ⟨gy, gy1⟩ := prs_get hy
      have hcx := cells_at HG.out gx
      have hcx1 := cells_at HG.out gx1
      have hcy := cells_at HG.out gy
      have hcy1 := cells_at HG.out gy1
      have hfx : wr.frozen? ⟨g, k * 2, none⟩ = false := blk_free HG.out
      have hfx1 : wr.frozen? ⟨g, k * 2 + 1, none⟩ = false := blk_free HG.out
      have hfy : wr.frozen? ⟨g, jn * 2, none⟩ = false := blk_free HG.out
      have hfy1 : wr.frozen? ⟨g, jn * 2 + 1, none⟩ = false := blk_free HG.out
      have R : Hid (TurnTo ps ((ds.set k (.int .i64 i2, .slice A2 m2 d2)).set jn (.int .i64 i1, .slice A1 m1 d1)) n (k + 1)) := by rw [Hid, hjn]; exact HT.out.step hlt hx (by rw [← hjn]; exact hy)
      have hklt : k < n := by omega
      have hjlt : jn < n := by omega
      have hne : k ≠ jn := by omega
      have hne2 : jn ≠ k := by omega
      have hkj : (k : Int) < (jn : Int) := by omega
      have R3 : Hid (((((wr.setCell ⟨g, k * 2, none⟩ (.int .i64 i2)).setCell ⟨g, k * 2 + 1, none⟩ (.slice A2 m2 d2)).setCell ⟨g, jn * 2, none⟩ (.int .i64 i1)).setCell ⟨g, jn * 2 + 1, none⟩ (.slice A1 m1 d1)).heap[g]? = some (.cells (prs ((ds.set k (.int .i64 i2, .slice A2 m2 d2)).set jn (.int .i64 i1, .slice A1 m1 d1)) ++ rest).toArray t (0, 0))) :=
        cells_set2 (p := (_, _)) (cells_set2 (p := (_, _)) HG.out (by rw [HT.out.1]; exact hklt)) (by rw [List.length_set, HT.out.1]; exact hjlt)
      have R4 : Hid (w.grownBy ((((wr.setCell ⟨g, k * 2, none⟩ (.int .i64 i2)).setCell ⟨g, k * 2 + 1, none⟩ (.slice A2 m2 d2)).setCell ⟨g, jn * 2, none⟩ (.int .i64 i1)).setCell ⟨g, jn * 2 + 1, none⟩ (.slice A1 m1 d1)) (some g)) := grown_set (grown_set (grown_set (grown_set HW.out)))
      clear hx hy gx gx1 gy gy1
      (have Hjn := Lib.hid hjn; clear hjn; have Hji := Lib.hid hji; clear hji)
      go_wp2_with fail
      go_region_with (fail)
      all_goals (try go_wp2_with fail)
      all_goals (
        refine ⟨⟨k + 1, _, by omega, by simp, congrArg _ (by have := Hjn.out; omega), R.out, R3.out, ?_⟩, ?_⟩
        · have q := R4.out
          exact ⟨q.os, q.tape, q.output, q.size, q.block⟩
        · simp only [intOf]; omega)
    · have R : Hid (ds = ps.reverse) := HT.out.done hn (by omega)
      go_wp2_with fail
      go_end0
      exact ⟨rfl, by rw [← R.out]; exact HG.out, HW.out⟩

/-- Symbols of the call's own, turned. -/
theorem reverseSyms_own (w : World) (base : Nat) (v : Value) (xs : List Sm) (ho : Own 2 eSm w base 53 v xs) (hn : 0 < xs.length) (hm : xs.length ≤ lim) :
    Calls Try.prog 39 #[v] w fun e w' => e = .returned (.tuple #[]) ∧ Own 2 eSm w' base 53 v xs.reverse ∧ w.grownBy w' v.ownBlock ∧ (∀ b, v.ownBlock = some b → base ≤ b) := by
  obtain ⟨g, cap, cs, rest, rfl, hbg, hg, hnc, hcm, hl, hall, h1, hr⟩ := own_row fSm (by decide) ho (by omega)
  obtain ⟨ps, hpl, rfl⟩ := prs_of hl
  have hsl : ∀ p ∈ ps, ∃ i A m c, p = (.int .i64 i, .slice A m c) := by
    intro p hp
    obtain ⟨i, hi, he⟩ := List.getElem_of_mem hp
    have hp' : ps[i]? = some p := by rw [List.getElem?_eq_getElem hi, he]
    obtain ⟨g0, g1⟩ := prs_get hp'
    have hx : xs[i]? = some xs[i] := List.getElem?_eq_getElem (by omega)
    obtain ⟨A, n, c, ⟨f0, f1⟩, _⟩ := eSm_iff.1 (hr i _ hx)
    have f0' : (prs ps)[i * 2]? = some _ := f0
    rw [g0] at f0'
    have f1' : (prs ps)[i * 2 + 1]? = some _ := f1
    rw [g1] at f1'
    injection f0' with f0'
    injection f1' with f1'
    exact ⟨_, A, n, c, by rw [← f0', ← f1']⟩
  refine (reverse_sym w g xs.length cap _ ps rest hg hpl hm hsl).mono ?_
  rintro e w' ⟨rfl, hg', hG⟩
  refine ⟨rfl, ?_, hG, fun b hb => by injection hb with hb; subst hb; exact hbg⟩
  have hrl : xs.reverse.length = xs.length := List.length_reverse
  have hpl' : (prs ps.reverse).length = xs.reverse.length * 2 := by rw [prs_len, List.length_reverse, List.length_reverse, hpl]
  have := row_own (ys := xs.reverse) (w := w) (w' := w') (cap := cap) sSm hbg hg' hG (by omega) hcm hpl' (by rw [hpl']; rw [hl] at hall; omega) fun i x hx => by
    have hi := (List.getElem?_eq_some_iff.1 hx).1
    rw [List.length_reverse] at hi
    rw [List.getElem?_reverse hi] at hx
    refine sSm.mono (fun j u hj hu => ?_) (hr _ x hx)
    obtain ⟨p, hp⟩ : ∃ p, ps[xs.length - 1 - i]? = some p := ⟨_, List.getElem?_eq_getElem (by omega)⟩
    have hq : ps.reverse[i]? = some p := by rw [List.getElem?_reverse (by omega), hpl, hp]
    obtain ⟨a0, a1⟩ := prs_get hp
    obtain ⟨b0, b1⟩ := prs_get hq
    match j, hj, hu with
    | 0, _, hu => exact b0.trans (a0.symm.trans hu)
    | 1, _, hu => exact b1.trans (a1.symm.trans hu)
  rw [hrl] at this
  exact this
theorem reverse_none (w : World) (A : Option Addr) (c : Nat) :
    Calls Try.prog 39 #[.slice A 0 c] w fun e w' => e = .returned (.tuple #[]) ∧ Fr w w' := by
  go_enter Try.func39, Try.ntmps39
  go_wp2_with fail
  go_loopw [2, 3] (fun i j wr => i = .int .i64 0 ∧ j = .int .i64 (-1) ∧ Hid (Fr w wr)) (fun _ _ _ => 0)
  case atStart => exact ⟨rfl, rfl, Below.refl _ _⟩
  case round =>
    obtain ⟨rfl, rfl, HF⟩ := hrel
    go_wp2_with fail
    go_end0
    exact ⟨rfl, HF.out⟩
theorem reverseSyms_any (w w0 : World) (v : Value) (xs : List Sm) (ho : Own 2 eSm w w0.heap.size 53 v xs) (hm : xs.length ≤ lim) (hf : Fr w0 w) :
    Calls Try.prog 39 #[v] w fun e w' => e = .returned (.tuple #[]) ∧ Own 2 eSm w' w0.heap.size 53 v xs.reverse ∧ Fr w0 w' := by
  rcases Nat.eq_zero_or_pos xs.length with h0 | h0
  · obtain ⟨A, c, rfl, _⟩ := ho.slC sSm (by decide)
    obtain rfl : xs = [] := List.eq_nil_of_length_eq_zero h0
    exact (reverse_none w A c).mono fun e w' ⟨he, hw⟩ => ⟨he, ho.fr sSm hw, hf.trans hw⟩
  · exact (reverseSyms_own w _ v xs ho h0 hm).mono fun e w' ⟨he, h1, h2, h3⟩ => ⟨he, h1, hf.grown h2 hf.size h3⟩
end Go.Proofs.Ytnfjghldcopaaaa
namespace Go.Proofs.Ytnfjghldcopaaaa

def rz : Rw := ⟨[], []⟩
/-- Which one of the rows from here on has the block. -/
def gw (rows : List Rw) (a k : Nat) : Int := idxF true ((rows.drop a).map fun r => r.bit k)
def swapR (rows : List Rw) (a b : Nat) : List Rw := (rows.set a (rows.getD b rz)).set b (rows.getD a rz)
def elimR (rows : List Rw) (a k : Nat) : List Rw := rows.mapIdx fun i r => if i = a then r else outOf k (rows.getD a rz) r
def gStep (st : List Rw × Nat) (k : Nat) : List Rw × Nat :=
  if gw st.1 st.2 k < 0 then st else (elimR (swapR st.1 st.2 (st.2 + (gw st.1 st.2 k).toNat)) st.2 k, st.2 + 1)
def gauss (rows : List Rw) (k : Nat) : List Rw × Nat := (List.range k).foldl gStep (rows, 0)
theorem gauss_succ (rows : List Rw) (k : Nat) : gauss rows (k + 1) = gStep (gauss rows k) k := by
  unfold gauss; rw [List.range_succ, List.foldl_append]; rfl
/-- What the reference's AddRow makes of a right system's rows. -/
def gAdd (B : Nat) (rows : List Rw) (r : Rw) : List Rw × Bool × Int :=
  if (gauss (rows ++ [r]) B).2 = (gauss (rows ++ [r]) B).1.length then ((gauss (rows ++ [r]) B).1, true, 0)
  else if ((gauss (rows ++ [r]) B).1.getD (gauss (rows ++ [r]) B).2 rz).data.all (fun c => c == 0) then ((gauss (rows ++ [r]) B).1.take (gauss (rows ++ [r]) B).2, false, 0) else ([], false, 9)

def sw (a b j : Nat) : Nat := if j = b then a else if j = a then b else j
theorem sw_left (a b : Nat) : sw a b a = b := by
  unfold sw
  split
  · assumption
  · rw [if_pos rfl]
theorem sw_back {a b j : Nat} (h : sw a b j = a) : j = b := by
  unfold sw at h
  split at h
  · assumption
  · split at h
    · omega
    · omega
theorem swapR_get {rows : List Rw} {a b : Nat} (ha : a < rows.length) (hb : b < rows.length) (j : Nat) : (swapR rows a b)[j]? = rows[sw a b j]? := by
  unfold swapR sw
  by_cases h1 : j = b
  · subst h1
    rw [List.getElem?_set_self (by simpa using hb), if_pos rfl, List.getD_eq_getElem?_getD, List.getElem?_eq_getElem ha]; rfl
  · rw [List.getElem?_set_ne (fun e => h1 e.symm), if_neg h1]
    by_cases h2 : j = a
    · subst h2
      rw [List.getElem?_set_self ha, if_pos rfl, List.getD_eq_getElem?_getD, List.getElem?_eq_getElem hb]; rfl
    · rw [List.getElem?_set_ne (fun e => h2 e.symm), if_neg h2]
theorem length_swapR (rows : List Rw) (a b : Nat) : (swapR rows a b).length = rows.length := by simp [swapR]
theorem elimR_get (rows : List Rw) (a k j : Nat) : (elimR rows a k)[j]? = (rows[j]?).map fun r => if j = a then r else outOf k (rows.getD a rz) r := by
  simp [elimR, List.getElem?_mapIdx]
theorem length_elimR (rows : List Rw) (a k : Nat) : (elimR rows a k).length = rows.length := by simp [elimR]
theorem length_gStep (st : List Rw × Nat) (k : Nat) : (gStep st k).1.length = st.1.length := by
  unfold gStep; split
  · rfl
  · rw [length_elimR, length_swapR]
theorem length_gauss (rows : List Rw) : ∀ k, (gauss rows k).1.length = rows.length
  | 0 => rfl
  | k + 1 => by rw [gauss_succ, length_gStep, length_gauss rows k]

/-- What all these rows span. -/
def AllOf (rows : List Rw) (g : Vc) : Prop := ∃ r ∈ rows, vc r = g
structure GOk (B K : Nat) (S : Vc → Prop) (k : Nat) (rows : List Rw) (a : Nat) : Prop where
  fit : ∀ r ∈ rows, Fit B K r
  le : a ≤ rows.length
  sys : Sys B K (rows.take a)
  lt : ∀ r ∈ rows.take a, r.fst < (k : Int)
  low : ∀ r ∈ rows.drop a, ∀ j, j < k → (vc r).h j = false
  span : ∀ v, Span (AllOf rows) v ↔ S v
theorem insAt_all {k : Nat} {rows : List Rw} (h : ∀ o ∈ rows, o.fst ≤ (k : Int)) : insAt k rows = rows.length := by
  unfold insAt
  rw [List.findIdx_eq_length]
  intro o ho
  have := h o ho
  simp; omega
theorem GOk.step {B K : Nat} {S : Vc → Prop} {k : Nat} {rows : List Rw} {a : Nat} (h : GOk B K S k rows a) : GOk B K S (k + 1) (gStep (rows, a) k).1 (gStep (rows, a) k).2 := by
  unfold gStep
  rcases idxF_spec true ((rows.drop a).map fun r => r.bit k) with ⟨h1, h2⟩ | ⟨i, h1, h2, _⟩
  · rw [if_pos (by simp only [gw]; omega)]
    refine ⟨h.fit, h.le, h.sys, fun r hr => by have := h.lt r hr; omega, fun r hr j hj => ?_, h.span⟩
    rcases Nat.lt_or_ge j k with h3 | h3
    · exact h.low r hr j h3
    · obtain rfl : j = k := by omega
      cases e : (vc r).h j with
      | false => rfl
      | true => exact absurd (List.mem_map.2 ⟨r, hr, e⟩) h2
  · have hw : gw rows a k = (i : Int) := h1
    rw [if_neg (by simp only [hw]; omega)]
    simp only [hw, Int.toNat_natCast]
    rw [List.getElem?_map, List.getElem?_drop] at h2
    obtain ⟨p, hp, hpk⟩ := Option.map_eq_some_iff.1 h2
    have hil := (List.getElem?_eq_some_iff.1 hp).1
    have hal : a < rows.length := by omega
    have hpm : p ∈ rows := List.mem_of_getElem? hp
    have hpd : p ∈ rows.drop a := List.mem_of_getElem? (by rw [List.getElem?_drop]; exact hp)
    have hpf := h.fit p hpm
    have hlead : Lead (vc p) k := ⟨hpk, fun j hj => h.low p hpd j hj⟩
    obtain ⟨sr, hsr⟩ : ∃ sr, sr = swapR rows a (a + i) := ⟨_, rfl⟩
    have hsg : ∀ j, sr[j]? = rows[sw a (a + i) j]? := fun j => by rw [hsr]; exact swapR_get hal hil j
    have hsa : sr.getD a rz = p := by
      rw [List.getD_eq_getElem?_getD, hsg]
      have : sw a (a + i) a = a + i := sw_left _ _
      rw [this, hp]; rfl
    have hsl : sr.length = rows.length := by rw [hsr, length_swapR]
    rw [← hsr]
    obtain ⟨nr, hnr⟩ : ∃ nr, nr = elimR sr a k := ⟨_, rfl⟩
    have hng : ∀ j, nr[j]? = (rows[sw a (a + i) j]?).map fun r => if j = a then r else outOf k p r := fun j => by rw [hnr, elimR_get, hsa, hsg]
    have hnl : nr.length = rows.length := by rw [hnr, length_elimR, hsl]
    rw [← hnr]
    have hclean : Clean (rows.take a) p := fun o ho => by
      have h3 := h.lt o ho
      have h4 := h.sys.fst o ho
      exact h.low p hpd _ (by omega)
    have htk : nr.take (a + 1) = (rows.take a).map (outOf k p) ++ [p] := by
      apply List.ext_getElem?
      intro j
      rw [List.getElem?_take]
      by_cases hj : j < a
      · rw [if_pos (by omega), hng, List.getElem?_append_left (by simp; omega), List.getElem?_map, List.getElem?_take, if_pos hj]
        have : sw a (a + i) j = j := by unfold sw; rw [if_neg (by omega), if_neg (by omega)]
        rw [this]
        simp only [show ¬ j = a by omega, if_false]
      · by_cases hj2 : j = a
        · subst hj2
          rw [if_pos (by omega), hng, List.getElem?_append_right (by simp; omega), List.length_map, List.length_take, Nat.min_eq_left (by omega), Nat.sub_self]
          have : sw j (j + i) j = j + i := sw_left _ _
          rw [this, hp]; simp
        · rw [if_neg (by omega), List.getElem?_eq_none (by simp; omega)]
    have hle : ∀ o ∈ (rows.take a).map (outOf k p), o.fst ≤ (k : Int) := fun o ho => by
      obtain ⟨q, hq, rfl⟩ := List.mem_map.1 ho
      obtain ⟨l, e1, e2, _⟩ := h.sys.leads hq
      have := h.lt q hq
      have hcl := hclean q hq
      rw [e1, Int.toNat_natCast] at hcl
      rw [fst_lead.2 (outOf_lead hpf (h.sys.fit q hq) hlead e2 hcl)]
      omega
    have hins : insRow (rows.take a) k p = nr.take (a + 1) := by
      unfold insRow
      rw [insAt_all hle, List.take_length, List.drop_length, htk]
    obtain ⟨hsys, _⟩ := insRow_sys h.sys hpf hlead hclean
    rw [hins] at hsys
    have hmem : ∀ x, x ∈ nr → x = p ∨ ∃ o ∈ rows, outOf k p o = x := fun x hx => by
      obtain ⟨j, hj⟩ := List.mem_iff_getElem?.1 hx
      rw [hng] at hj
      obtain ⟨o, ho, e⟩ := Option.map_eq_some_iff.1 hj
      split at e
      · rename_i hja
        subst hja e
        have : sw j (j + i) j = j + i := sw_left _ _
        rw [this, hp] at ho
        injection ho with ho
        exact .inl ho.symm
      · exact .inr ⟨o, List.mem_of_getElem? ho, e⟩
    have hpn : p ∈ nr := by
      refine List.mem_of_getElem? (i := a) ?_
      rw [hng]
      have : sw a (a + i) a = a + i := sw_left _ _
      rw [this, hp]; simp
    have hback : ∀ o ∈ rows, o = p ∨ outOf k p o ∈ nr := fun o ho => by
      obtain ⟨j, hj⟩ := List.mem_iff_getElem?.1 ho
      have hjl := (List.getElem?_eq_some_iff.1 hj).1
      have hss : ∀ t, sw a (a + i) (sw a (a + i) t) = t := fun t => by unfold sw; (repeat' split) <;> omega
      by_cases e : sw a (a + i) j = a
      · have : j = a + i := sw_back e
        subst this
        rw [hp] at hj
        injection hj with hj
        exact .inl hj.symm
      · refine .inr (List.mem_of_getElem? (i := sw a (a + i) j) ?_)
        rw [hng, hss, hj]
        simp [e]
    refine ⟨fun r hr => ?_, by rw [hnl]; omega, hsys, fun r hr => ?_, fun r hr j hj => ?_, fun v => Iff.trans ⟨Span.le fun g hg => ?_, Span.le fun g hg => ?_⟩ (h.span v)⟩
    · rcases hmem r hr with rfl | ⟨o, ho, rfl⟩
      · exact hpf
      · exact outOf_fit hpf (h.fit o ho)
    · rw [htk] at hr
      rcases List.mem_append.1 hr with hr | hr
      · obtain ⟨q, hq, rfl⟩ := List.mem_map.1 hr
        obtain ⟨l, e1, e2, _⟩ := h.sys.leads hq
        have := h.lt q hq
        have hcl := hclean q hq
        rw [e1, Int.toNat_natCast] at hcl
        rw [fst_lead.2 (outOf_lead hpf (h.sys.fit q hq) hlead e2 hcl)]
        omega
      · obtain rfl := List.mem_singleton.1 hr
        rw [fst_lead.2 hlead]; omega
    · obtain ⟨t, ht⟩ := List.mem_iff_getElem?.1 hr
      rw [List.getElem?_drop, hng] at ht
      obtain ⟨o, ho, e⟩ := Option.map_eq_some_iff.1 ht
      rw [if_neg (by omega)] at e
      subst e
      have hod : o ∈ rows.drop a := by
        have : ∃ u, sw a (a + i) (a + 1 + t) = a + u := by
          unfold sw
          (repeat' split)
          · exact ⟨0, rfl⟩
          · exact ⟨i, rfl⟩
          · exact ⟨1 + t, by omega⟩
        obtain ⟨u, hu⟩ := this
        rw [hu] at ho
        exact List.mem_of_getElem? (i := u) (by rw [List.getElem?_drop]; exact ho)
      have hof := h.fit o (List.mem_of_getElem? ho)
      rcases Nat.lt_or_ge j k with h3 | h3
      · rw [outOf_other hpf hof (hlead.2 j h3)]
        exact h.low o hod j h3
      · obtain rfl : j = k := by omega
        exact outOf_k hpf hof hlead
    · obtain ⟨x, hx, rfl⟩ := hg
      rcases hmem x hx with rfl | ⟨o, ho, rfl⟩
      · exact .of ⟨_, hpm, rfl⟩
      · rw [outOf_vc hpf (h.fit o ho)]
        split
        · exact .add ⟨o, ho, rfl⟩ (.of ⟨p, hpm, rfl⟩)
        · exact .of ⟨o, ho, rfl⟩
    · obtain ⟨o, ho, rfl⟩ := hg
      rcases hback o ho with rfl | ho'
      · exact .of ⟨_, hpn, rfl⟩
      · have e := outOf_vc (k := k) hpf (h.fit o ho)
        split at e
        · rw [show vc o = (vc o + vc p) + vc p by rw [Vc.assoc, Vc.self, Vc.add_zero], ← e]
          exact .add ⟨_, ho', rfl⟩ (.of ⟨p, hpn, rfl⟩)
        · rw [← e]
          exact .of ⟨_, ho', rfl⟩
theorem gauss_ok {B K : Nat} {S : Vc → Prop} {rows : List Rw} (hf : ∀ r ∈ rows, Fit B K r) (hS : ∀ v, Span (AllOf rows) v ↔ S v) : ∀ k, GOk B K S k (gauss rows k).1 (gauss rows k).2
  | 0 => ⟨hf, Nat.zero_le _, ⟨fun _ h => by simp [gauss] at h, fun _ h => by simp [gauss] at h, by
      show Ech (pl (rows.take 0)); rw [List.take_zero]; exact Ech.nil⟩, fun _ h => by simp [gauss] at h, fun _ _ j hj => by omega, hS⟩
  | k + 1 => by
    rw [gauss_succ]
    exact (gauss_ok hf hS k).step
theorem pl_inj {B K : Nat} : ∀ {xs ys : List Rw}, (∀ r ∈ xs, Fit B K r) → (∀ r ∈ ys, Fit B K r) → pl xs = pl ys → xs = ys
  | [], [], _, _, _ => rfl
  | [], _ :: _, _, _, h => by simp [pl] at h
  | _ :: _, [], _, _, h => by simp [pl] at h
  | x :: xs, y :: ys, hx, hy, h => by
    simp only [pl, List.map_cons, List.cons.injEq, Prod.mk.injEq] at h
    rw [vc_inj (hx x (by simp)) (hy y (by simp)) h.1.2, pl_inj (fun r hr => hx r (List.mem_cons_of_mem _ hr)) (fun r hr => hy r (List.mem_cons_of_mem _ hr)) h.2]
theorem allOf_pl (rows : List Rw) (g : Vc) : Of (pl rows) g ↔ AllOf rows g := by
  constructor
  · rintro ⟨a, ha, rfl⟩
    obtain ⟨r, hr, rfl⟩ := List.mem_map.1 ha
    exact ⟨r, hr, rfl⟩
  · rintro ⟨r, hr, rfl⟩
    exact of_mem hr
/-- What is spanned is a sum of the first ones', and of what has no block. -/
theorem GOk.split {B K : Nat} {S : Vc → Prop} {rows : List Rw} {a : Nat} (h : GOk B K S B rows a) {v : Vc} (hv : S v) : ∃ s z, v = s + z ∧ Sp (pl (rows.take a)) s ∧ (∀ i, z.h i = false) ∧ ((∀ r ∈ rows.drop a, vc r = Vc.zero) → z = Vc.zero) := by
  have := (h.span v).2 hv
  induction this with
  | zero => exact ⟨_, _, (Vc.add_zero _).symm, .zero, fun _ => rfl, fun _ => rfl⟩
  | add hg hs ih =>
    rename_i g v'
    obtain ⟨s, z, rfl, h1, h2, h3⟩ := ih ((h.span _).1 hs)
    obtain ⟨r, hr, rfl⟩ := hg
    rw [← List.take_append_drop a rows] at hr
    rcases List.mem_append.1 hr with hr | hr
    · exact ⟨vc r + s, z, (Vc.assoc _ _ _).symm, .add (of_mem hr) h1, h2, h3⟩
    · refine ⟨s, vc r + z, by ac_rfl, h1, fun i => ?_, fun e => by rw [e r hr, h3 e, Vc.zero_add]⟩
      rw [Vc.add_h, h2 i, Bool.xor_false]
      rcases Nat.lt_or_ge i B with hi | hi
      · exact h.low r hr i hi
      · cases e : (vc r).h i with
        | false => rfl
        | true => have := lead_lt (h.fit r (List.mem_of_mem_drop hr)) e; omega
/-- Rows in order of the same span are no more. -/
theorem GOk.rank {B K : Nat} {S : Vc → Prop} {rows : List Rw} {a : Nat} (h : GOk B K S B rows a) {qs : List Rw} (hq : Sys B K qs) (hS : ∀ v, Sp (pl qs) v → S v) : qs.length ≤ a := by
  have := ech_card (ps := pl qs) (qs := pl (rows.take a)) hq.ech fun b hb => by
    have h1 : Lead b.2 b.1 := hq.ech.lead b hb
    obtain ⟨s, z, e, h2, h3, _⟩ := h.split (hS b.2 (.of ⟨b, hb, rfl⟩))
    refine span_lead h.sys.ech h2 (k := b.1) ?_
    refine ⟨?_, fun j hj => ?_⟩
    · have := h1.1
      rw [e, Vc.add_h, h3, Bool.xor_false] at this; exact this
    · have := h1.2 j hj
      rw [e, Vc.add_h, h3, Bool.xor_false] at this; exact this
  simp only [pl, List.length_map, List.length_take] at this
  omega
theorem all_zero {B K : Nat} {r : Rw} (hz : ∀ i, (vc r).h i = false) (hf : Fit B K r) : (r.data.all fun c => c == 0) = true ↔ vc r = Vc.zero := by
  constructor
  · exact zero_of hf hz
  · intro e
    rw [List.all_eq_true]
    intro c hc
    obtain ⟨i, hi⟩ := List.mem_iff_getElem?.1 hc
    have h2 : r.data.getD i 0 = 0 := by
      have : (vc r).d i = 0 := by rw [e]; rfl
      exact this
    rw [List.getD_eq_getElem?_getD, hi] at h2
    simpa using h2
/-- The reference's way, and the program's. -/
theorem gAdd_eq {B K : Nat} {rows : List Rw} {r : Rw} (hs : Sys B K rows) (h : Fit B K r) : gAdd B rows r = addRow rows r := by
  have hfa : ∀ x ∈ rows ++ [r], Fit B K x := fun x hx => by
    rcases List.mem_append.1 hx with hx | hx
    · exact hs.fit x hx
    · obtain rfl := List.mem_singleton.1 hx; exact h
  have hwith : ∀ v, Span (AllOf (rows ++ [r])) v ↔ Span (With rows r) v := fun v => by
    constructor
    · refine Span.mono fun g hg => ?_
      obtain ⟨x, hx, rfl⟩ := hg
      rcases List.mem_append.1 hx with hx | hx
      · exact .inl (of_mem hx)
      · obtain rfl := List.mem_singleton.1 hx; exact .inr rfl
    · refine Span.mono fun g hg => ?_
      rcases hg with hg | rfl
      · obtain ⟨x, hx, rfl⟩ := (allOf_pl rows g).1 hg
        exact ⟨x, List.mem_append_left _ hx, rfl⟩
      · exact ⟨r, by simp, rfl⟩
  have hG := gauss_ok hfa hwith B
  have hlen := length_gauss (rows ++ [r]) B
  rw [List.length_append, List.length_singleton] at hlen
  unfold gAdd
  generalize gauss (rows ++ [r]) B = G at *
  obtain ⟨N, a⟩ := G
  simp only at *
  have hr1 : rows.length ≤ a := hG.rank hs fun v hv => hv.mono fun g hg => .inl hg
  have hale := hG.le
  rcases addRow_cases hs h with ⟨e, hsp⟩ | ⟨e, v, hv, hz, hnz⟩ | ⟨rows', k, e, _, _, hl', hs', hsp'⟩
  · -- nothing new
    have hspan : ∀ v, Span (With rows r) v ↔ Sp (pl rows) v := fun v => ⟨Span.le fun g hg => by
      rcases hg with hg | rfl
      · exact .of hg
      · exact hsp, Span.mono fun g hg => .inl hg⟩
    have hle : a ≤ rows.length := by
      have := ech_card (ps := pl (N.take a)) (qs := pl rows) hG.sys.ech fun b hb => by
        obtain ⟨x, hx, rfl⟩ := List.mem_map.1 hb
        exact span_lead hs.ech ((hspan _).1 ((hG.span _).1 (.of ⟨x, List.mem_of_mem_take hx, rfl⟩))) (hG.sys.ech.lead _ hb)
      simp only [pl, List.length_map, List.length_take] at this
      omega
    obtain rfl : a = rows.length := by omega
    obtain ⟨x, hx⟩ : ∃ x, N[rows.length]? = some x := ⟨_, List.getElem?_eq_getElem (by omega)⟩
    have hxd : x ∈ N.drop rows.length := List.mem_of_getElem? (i := 0) (by rw [List.getElem?_drop]; simpa using hx)
    have hxf := hG.fit x (List.mem_of_getElem? hx)
    have hxz : ∀ i, (vc x).h i = false := fun i => by
      rcases Nat.lt_or_ge i B with hi | hi
      · exact hG.low x hxd i hi
      · cases e : (vc x).h i with
        | false => rfl
        | true => have := lead_lt hxf e; omega
    have hx0 : vc x = Vc.zero := span_zero hs.ech ((hspan _).1 ((hG.span _).1 (.of ⟨x, List.mem_of_getElem? hx, rfl⟩))) fun _ _ => hxz _
    rw [if_neg (by omega), List.getD_eq_getElem?_getD, hx, Option.getD_some, if_pos ((all_zero hxz hxf).2 hx0), e]
    congr 1
    refine pl_inj hG.sys.fit hs.fit (ech_uniq hG.sys.ech hs.ech fun v => ⟨fun hv => (hspan v).1 ((hG.span v).1 (hv.mono fun g hg => ?_)), fun hv => ?_⟩)
    · obtain ⟨y, hy, rfl⟩ := (allOf_pl _ _).1 hg
      exact ⟨y, List.mem_of_mem_take hy, rfl⟩
    · obtain ⟨s, z, rfl, h1, _, h3⟩ := hG.split ((hspan v).2 hv)
      rw [h3 fun y hy => ?_, Vc.add_zero]
      · exact h1
      · have : y = x := by
          have hd : N.drop rows.length = [x] := by rw [drop_cons hx, List.drop_eq_nil_of_le (by omega)]
          rw [hd] at hy; exact List.mem_singleton.1 hy
        rw [this]; exact hx0
  · -- it can't be
    have hne : a ≠ N.length := by
      rintro rfl
      have : v = Vc.zero := by
        obtain ⟨s, z, rfl, h1, h2, h3⟩ := hG.split hv
        have hz0 := h3 fun y hy => by rw [List.drop_length] at hy; cases hy
        rw [hz0, Vc.add_zero] at hz ⊢
        exact span_zero hG.sys.ech h1 fun _ _ => hz _
      exact hnz this
    obtain rfl : a = rows.length := by omega
    obtain ⟨x, hx⟩ : ∃ x, N[rows.length]? = some x := ⟨_, List.getElem?_eq_getElem (by omega)⟩
    have hxd : x ∈ N.drop rows.length := List.mem_of_getElem? (i := 0) (by rw [List.getElem?_drop]; simpa using hx)
    have hxf := hG.fit x (List.mem_of_getElem? hx)
    have hxz : ∀ i, (vc x).h i = false := fun i => by
      rcases Nat.lt_or_ge i B with hi | hi
      · exact hG.low x hxd i hi
      · cases e : (vc x).h i with
        | false => rfl
        | true => have := lead_lt hxf e; omega
    rw [if_neg hne, List.getD_eq_getElem?_getD, hx, Option.getD_some, if_neg, e]
    intro h0
    have hx0 := (all_zero hxz hxf).1 h0
    apply hnz
    obtain ⟨s, z, rfl, h1, h2, h3⟩ := hG.split hv
    have hz0 := h3 fun y hy => by
      have hd : N.drop rows.length = [x] := by rw [drop_cons hx, List.drop_eq_nil_of_le (by omega)]
      rw [hd] at hy; rw [List.mem_singleton.1 hy]; exact hx0
    rw [hz0, Vc.add_zero] at hz ⊢
    exact span_zero hG.sys.ech h1 fun _ _ => hz _
  · -- something new
    have hr2 : rows'.length ≤ a := hG.rank hs' fun v hv => (hsp' v).1 hv
    obtain rfl : a = N.length := by omega
    have htl : N.take N.length = N := List.take_length
    have hsys := hG.sys
    rw [htl] at hsys
    rw [if_pos rfl, e]
    congr 1
    refine pl_inj hsys.fit hs'.fit (ech_uniq hsys.ech hs'.ech fun v => ?_)
    rw [hsp', ← hG.span]
    exact ⟨Span.mono fun g hg => (allOf_pl _ _).1 hg, Span.mono fun g hg => (allOf_pl _ _).2 hg⟩
end Go.Proofs.Ytnfjghldcopaaaa
namespace Go.Proofs.Ytnfjghldcopaaaa
open Go.RowKit
attribute [local irreducible] wpList

/-- A row as a pair of cells. -/
def RwV (w : World) (S : Nat → Prop) (p : Value × Value) (x : Rw) : Prop :=
  ∃ A n c A2 n2 c2, p = (.slice A n c, .slice A2 n2 c2) ∧ Bol w S A n c x.has ∧ Byt w S A2 n2 c2 x.data
theorem RwV.chg {w w' : World} {S T : Nat → Prop} {p : Value × Value} {x : Rw} (h : RwV w S p x) (k : Chg T w w') (hd : ∀ b, S b → b < w.heap.size ∧ ¬ T b) : RwV w' S p x := by
  obtain ⟨A, n, c, A2, n2, c2, e, h1, h2⟩ := h
  exact ⟨A, n, c, A2, n2, c2, e, ⟨h1.1, h1.2.chg sBool k hd⟩, h2.1, h2.2.chg sByte k hd⟩
theorem RwV.more {w : World} {S T : Nat → Prop} {p : Value × Value} {x : Rw} (h : RwV w S p x) (hd : ∀ b, S b → T b) : RwV w T p x := by
  obtain ⟨A, n, c, A2, n2, c2, e, h1, h2⟩ := h
  exact ⟨A, n, c, A2, n2, c2, e, ⟨h1.1, h1.2.more sBool hd⟩, h2.1, h2.2.more sByte hd⟩
def RsM (w : World) (S : Nat → Prop) (g : Nat) (rest : List Value) (xs : List Rw) : Prop :=
  ∃ ps, w.heap[g]? = some (.cells (prs ps ++ rest).toArray 29 (0, 0)) ∧ ps.length = xs.length ∧ ∀ (i : Nat) (x : Rw), xs[i]? = some x → ∃ p, ps[i]? = some p ∧ RwV w S p x
section
variable {w w' : World} {S T : Nat → Prop} {g : Nat} {rest : List Value} {xs : List Rw}
theorem RsM.lt (h : RsM w S g rest xs) : g < w.heap.size := by obtain ⟨ps, h, _⟩ := h; exact (Array.getElem?_eq_some_iff.1 h).1
theorem RsM.free {i : Nat} (h : RsM w S g rest xs) : w.frozen? ⟨g, i, none⟩ = false := by obtain ⟨ps, h, _⟩ := h; exact blk_free h
theorem RsM.chg (h : RsM w S g rest xs) (k : Chg T w w') (hg : ¬ T g) (hd : ∀ b, S b → b < w.heap.size ∧ ¬ T b) : RsM w' S g rest xs := by
  obtain ⟨ps, h1, h2, h3⟩ := h
  exact ⟨ps, k.blk h1 hg, h2, fun i x hx => by obtain ⟨p, hp, hv⟩ := h3 i x hx; exact ⟨p, hp, hv.chg k hd⟩⟩
theorem RsM.fr (h : RsM w S g rest xs) (k : Fr w w') (hd : ∀ b, S b → b < w.heap.size) : RsM w' S g rest xs := h.chg (T := fun _ => False) k.chg (fun e => e) fun b hb => ⟨hd b hb, fun e => e⟩
theorem RsM.more (h : RsM w S g rest xs) (hd : ∀ b, S b → T b) : RsM w T g rest xs := by
  obtain ⟨ps, h1, h2, h3⟩ := h
  exact ⟨ps, h1, h2, fun i x hx => by obtain ⟨p, hp, hv⟩ := h3 i x hx; exact ⟨p, hp, hv.more hd⟩⟩
/-- The i-th row's cells. -/
theorem RsM.get {i : Nat} {x : Rw} (h : RsM w S g rest xs) (hx : xs[i]? = some x) : ∃ A n c A2 n2 c2, w.cell? ⟨g, i * 2, none⟩ = some (.slice A n c) ∧ w.cell? ⟨g, i * 2 + 1, none⟩ = some (.slice A2 n2 c2) ∧ Bol w S A n c x.has ∧ Byt w S A2 n2 c2 x.data := by
  obtain ⟨ps, h1, h2, h3⟩ := h
  obtain ⟨p, hp, A, n, c, A2, n2, c2, rfl, k1, k2⟩ := h3 i x hx
  obtain ⟨g0, g1⟩ := prs_get hp
  exact ⟨A, n, c, A2, n2, c2, cells_at h1 g0, cells_at h1 g1, k1, k2⟩
/-- The i-th row is set. -/
theorem RsM.set {i : Nat} {x : Rw} {A A2 : Option Addr} {n c n2 c2 : Nat} (h : RsM w S g rest xs) (hS : ¬ S g) (hi : i < xs.length) (k1 : Bol w S A n c x.has) (k2 : Byt w S A2 n2 c2 x.data) :
    RsM ((w.setCell ⟨g, i * 2, none⟩ (.slice A n c)).setCell ⟨g, i * 2 + 1, none⟩ (.slice A2 n2 c2)) S g rest (xs.set i x) := by
  obtain ⟨ps, h1, h2, h3⟩ := h
  have hk : ∀ p : Addr, S p.block → ((w.setCell ⟨g, i * 2, none⟩ (.slice A n c)).setCell ⟨g, i * 2 + 1, none⟩ (.slice A2 n2 c2)).cell? p = w.cell? p := fun p hp => by
    rw [World.cell?_setCell_other _ _ p _ (fun e => by subst e; exact hS hp), World.cell?_setCell_other _ _ p _ (fun e => by subst e; exact hS hp)]
  refine ⟨ps.set i (.slice A n c, .slice A2 n2 c2), cells_set2 (p := (_, _)) h1 (by omega), by simp [h2], fun j y hy => ?_⟩
  rw [List.getElem?_set] at hy
  split at hy
  · rename_i e
    subst e
    injection hy with hy
    subst hy
    exact ⟨_, List.getElem?_set_self (by omega), A, n, c, A2, n2, c2, rfl, ⟨k1.1, k1.2.keep sBool hk⟩, k2.1, k2.2.keep sByte hk⟩
  · rename_i e
    obtain ⟨p, hp, B, m, d, B2, m2, d2, e2, q1, q2⟩ := h3 j y hy
    exact ⟨p, by rw [List.getElem?_set_ne e]; exact hp, B, m, d, B2, m2, d2, e2, ⟨q1.1, q1.2.keep sBool hk⟩, q2.1, q2.2.keep sByte hk⟩
/-- As a slice, from the k-th one on. -/
theorem RsM.sl {k n : Nat} (h : RsM w S g rest xs) (hk : k + n = xs.length) (hS : ∀ b, S b → T b) (hT : T g) : Sl 2 eRw w T (some ⟨g, k * 2, none⟩) n (xs.drop k) := by
  obtain ⟨ps, h1, h2, h3⟩ := h
  refine ⟨by rw [List.length_drop]; omega, fun _ => ⟨_, rfl, hT, fun i x hx => ?_⟩⟩
  rw [List.getElem?_drop] at hx
  obtain ⟨p, hp, A, m, c, A2, m2, c2, rfl, k1, k2⟩ := h3 _ x hx
  obtain ⟨g0, g1⟩ := prs_get hp
  have hc0 := cells_at h1 g0
  have hc1 := cells_at h1 g1
  refine eRw_iff.2 ⟨A, m, c, A2, m2, c2, ⟨?_, ?_⟩, ⟨k1.1, k1.2.more sBool hS⟩, k2.1, k2.2.more sByte hS⟩
  · rw [Addr.add_lit, show k * 2 + (i * 2 + 0) = (k + i) * 2 by omega]; exact hc0
  · rw [Addr.add_lit, show k * 2 + (i * 2 + 1) = (k + i) * 2 + 1 by omega]; exact hc1
/-- From a slice of the call's own. -/
theorem Own.rsM {base : Nat} {v : Value} (h : Own 2 eRw w base 29 v xs) (hn : 0 < xs.length) : ∃ g cap rest, v = .slice (some ⟨g, 0, none⟩) xs.length cap ∧ base ≤ g ∧ (xs.length ≤ cap ∧ cap ≤ maxLen) ∧ RsM w (fun b => b < w.heap.size ∧ b ≠ g) g rest xs := by
  obtain ⟨g, cap, cs, rest, rfl, hbg, hg, hnc, hcm, hl, hall, h1, hr⟩ := own_row fRw (by decide) h hn
  obtain ⟨ps, hpl, rfl⟩ := prs_of hl
  refine ⟨g, cap, rest, rfl, hbg, ⟨hnc, hcm⟩, ps, hg, hpl, fun i x hx => ?_⟩
  have hi := (List.getElem?_eq_some_iff.1 hx).1
  obtain ⟨p, hp⟩ : ∃ p, ps[i]? = some p := ⟨_, List.getElem?_eq_getElem (by omega)⟩
  obtain ⟨g0, g1⟩ := prs_get hp
  obtain ⟨A, n, c, A2, n2, c2, ⟨e0, e1⟩, k1, k2⟩ := eRw_iff.1 (hr i x hx)
  simp only [Nat.add_zero] at e0
  rw [g0] at e0
  rw [g1] at e1
  injection e0 with e0
  injection e1 with e1
  exact ⟨p, hp, A, n, c, A2, n2, c2, Prod.ext e0 e1, k1, k2⟩
end

section
variable {α : Type} {size : Nat} {r : ERd α} {w w' : World} {base : Nat} {e : TypeId} {v : Value} {xs : List α}
theorem Own.emptyAt {b : Nat} (hb : base ≤ w.heap.size) (h : b = w.heap.size) : Own size r (w.alloc (.cells #[] e)) base e (.slice (some ⟨b, 0, none⟩) 0 0) ([] : List α) := by
  subst h; exact Own.empty hb
theorem run_append_nil0 {P : Program} (t ty : TypeId) (i : TypeInfo) (c : Nat) (cs : List Value) (ht : P.underlying t = some (.slice e)) (hi : P.info? e = some i) (n : Nat) (hown : w.ownsRow base e size v n cs) :
    (Builtin.append_ #[t, t] ty #[v, .slice none 0 c]).run P w = .ok v w := by
  rcases hown.2 with ⟨rfl, rfl⟩ | ⟨g, cap, cur, rfl, _, _, hnc, _⟩
  · simp [Builtin.append_, run_underlying ht, sizeOf, typeInfo, hi, Builtin.lenOf, Builtin.firstCells]
  · simp [Builtin.append_, run_underlying ht, sizeOf, typeInfo, hi, Builtin.lenOf, Builtin.firstCells, hnc, storeCells]
/-- 'append(v, s...)' as one step of a region that draws its order: s as it lay at an earlier world. -/
theorem step_appSl {P : Program} {ops : Array Oper} {o : Oper} {a : Act} {K : Act → World → Prop} {Q : Exit → Act → World → Prop} {E : Prop} (hgd : o.guard = none) (s x : Operand) (t : TypeId)
    (ho : o.op = .call { callee := .builtin .append, args := #[s, x], argTypes := #[t, t] })
    (z : Value) (bytes : Nat) (ht : P.underlying t = some (.slice e)) (hi : (P.info? e).map (fun i => (i.zero, i.size, i.bytes)) = some (some z, size, bytes))
    (hzs : z.cells.size = size) (hsz : 0 < size) (st : Stable size r) (F : Full size r) (W0 : World) (hf : Fr W0 w) (hb : W0.heap.size = base)
    (hs : a.eval s = v) (hown : Own size r w base e v xs) (A : Option Addr) (n c : Nat) (ys : List α) (hx : a.eval x = .slice A n c) (hy : Sl size r W0 (LT W0.heap.size) A n ys)
    (h63 : xs.length + n ≤ maxLen) (hbytes : (xs.length + n) * bytes ≤ lim)
    (h : ∀ v' w', Hid (Own size r w' base e v' (xs ++ ys)) → Hid (Fr W0 w') → Hid (∀ b ob, w.heap[b]? = some ob → v.ownBlock ≠ some b → w'.heap[b]? = some ob) → K (a.put o.dst v') w') :
    if Region.wanted o (yielded ops a.tmps) = true then Oper.wp P o a w K Q else E := by
  have hw : Region.wanted o (yielded ops a.tmps) = true := by simp [Region.wanted, hgd]
  cases A with
  | none =>
    have hn : n = 0 := by
      rcases Nat.eq_zero_or_pos n with h0 | h0
      · exact h0
      · obtain ⟨ad, e, _⟩ := hy.2 h0; cases e
    subst hn
    have hl : ys = [] := List.eq_nil_of_length_eq_zero hy.1
    subst hl
    rw [if_pos hw]
    obtain ⟨i, hi1, hi2⟩ := Option.map_eq_some_iff.1 hi
    obtain ⟨cs, hrow, hr⟩ := hown
    have hrun := run_append_nil0 (P := P) (size := size) (w := w) (v := v) (base := base) t o.type i c cs ht hi1 _ hrow
    unfold Oper.wp execOp
    simp only [ho, resolve, invoke, builtin, Sem.run_bind, Sem.run_pure, Result.andThen_ok, List.map_toArray, List.map_cons, List.map_nil, hs, hx, hrun]
    exact h v w (by rw [List.append_nil]; exact ⟨cs, hrow, hr⟩) hf fun b ob hb _ => hb
  | some ad =>
    obtain ⟨cs, hcl, hcc, hc1, hcr⟩ : ∃ cs : List Value, cs.length = n * size ∧ (∀ j u, cs[j]? = some u → W0.cell? (ad.add j) = some u ∧ ad.block < W0.heap.size) ∧ (∀ u ∈ cs, u.oneCell' = true) ∧ ∀ i x, ys[i]? = some x → r W0 (LT W0.heap.size) (fun j => cs[i * size + j]?) x := by
      rcases Nat.eq_zero_or_pos n with h0 | h0
      · have hl : ys = [] := List.eq_nil_of_length_eq_zero (by rw [hy.1]; exact h0)
        exact ⟨[], by simp [h0], fun j u hu => by simp at hu, fun u hu => by simp at hu, fun i x hx => by simp [hl] at hx⟩
      · obtain ⟨ad', e', hE⟩ := hy.els h0
        injection e' with e'
        subst e'
        obtain ⟨cs, k1, k2, k3, k4⟩ := hE.cells F st hsz
        exact ⟨cs, k1, fun j u hu => ⟨k2 j u hu, hE.2.1⟩, k3, k4⟩
    refine step_apps (w := w) hgd s x t ho base e z size bytes ht hi hzs hsz st v xs hs hown ad n c cs hx hcl (fun j u hu => ?_) hc1 ys hy.1 (fun i y hiy => ?_) h63 hbytes (by rw [← hb]; exact hf.size) fun v' w' h1 h2 h3 => h v' w' h1 ?_ ?_
    · obtain ⟨k1, k2⟩ := hcc j u hu
      exact (hf.cell (by rw [block_of_add]; exact k2)).trans k1
    · exact ERd.beside (w := W0) (wr := w) st (hcr i y hiy) hf (by rw [hb]; exact Nat.le_refl _) hf.size hown
    · exact hf.grown h2 hf.size fun k hk => by have := h3 k hk; omega
    · exact fun b ob hob hne => (h2.block b (Array.getElem?_eq_some_iff.1 hob).1 fun e => hne e.symm).trans hob
end

set_option maxHeartbeats 400000 in
theorem indexFuncRow_any (w : World) (f : FuncId) (cp : Value) (hcf : ∀ (args : Array Value) (W : World), (callFunc f args).run Try.prog W = .ok (.enter f args) W) (p : Rw → Bool) (xs : List Rw) (A : Option Addr) (n c : Nat) (h : Sl 2 eRw w (LT w.heap.size) A n xs) (hm : n ≤ maxLen)
    (hfn : ∀ x ∈ xs, ∀ (W : World) (A1 : Option Addr) (n1 c1 : Nat) (A2 : Option Addr) (n2 c2 : Nat), Fr w W → Bol W (LT W.heap.size) A1 n1 c1 x.has → Byt W (LT W.heap.size) A2 n2 c2 x.data → Calls Try.prog f #[.agg #[.slice A1 n1 c1, .slice A2 n2 c2], cp] W fun e w' => e = .returned (.bool (p x)) ∧ Fr W w') :
    Calls Try.prog 66 #[.slice A n c, .func (.func f) #[] #[cp]] w fun e w' => e = .returned (.int .i64 (idxF true (xs.map p))) ∧ Fr w w' := by
  unfold maxLen at hm
  have H := Lib.hid h
  have HFN := Lib.hid hfn
  clear h hfn
  go_enter Try.func66, Try.ntmps66
  go_wp2_with fail
  go_loopw [8] (fun i wr => ∃ k : Nat, k ≤ n ∧ i = .int .i64 k ∧ Hid (idxF true (xs.map p) = idxAux true ((xs.map p).drop k) k) ∧ Hid (Fr w wr)) (fun i _ => n - (intOf i).toNat)
  case atStart => exact ⟨0, Nat.zero_le _, rfl, rfl, Below.refl _ _⟩
  case round =>
    obtain ⟨k, hk, rfl, HS, HF⟩ := hrel
    obtain ⟨wo, rfl⟩ : ∃ wo : World, wo = wr := ⟨_, rfl⟩
    by_cases hlt : k < n
    · obtain ⟨ad, rfl, hE⟩ := (H.out.go sRw HF.out).els (by omega)
      obtain ⟨b, hb, hrb⟩ := hE.row hlt
      obtain ⟨A1, n1, c1, A2, n2, c2, ⟨m0, m1⟩, hx1, hx2⟩ := eRw_at hrb
      have hpb : (xs.map p)[k]? = some (p b) := by rw [List.getElem?_map, hb]; rfl
      have HS' : Hid (idxF true (xs.map p) = if true = p b then (k : Int) else idxAux true ((xs.map p).drop (k + 1)) (k + 1)) := by rw [Hid, HS.out, idxAux_drop hpb]
      obtain ⟨q, hq⟩ : ∃ q, q = p b := ⟨_, rfl⟩
      have HC := Lib.hid (fun W hf h1 h2 => HFN.out b (List.mem_of_getElem? hb) W A1 n1 c1 A2 n2 c2 hf h1 h2)
      rw [← hq] at HS' HC
      (have Hx1 := Lib.hid hx1; clear hx1; have Hx2 := Lib.hid hx2; clear hx2)
      clear HS hb hE hpb hq hrb
      go_wp2_with fail
      (with_reducible refine (HC.out _ HF.out Hx1.out Hx2.out).mono ?_)
      rintro e w' ⟨rfl, hf⟩
      have HF' : Hid (Fr w w') := HF.out.trans hf
      clear m0 m1 hf
      cases q with
      | true =>
        have HR : Hid (idxF true (xs.map p) = (k : Int)) := by rw [Hid, HS'.out, if_pos rfl]
        clear HS'
        go_wp2_with fail
        go_ret
        exact ⟨retI HR.out.symm, HF'.out⟩
      | false =>
        have HR : Hid (idxF true (xs.map p) = idxAux true ((xs.map p).drop (k + 1)) (k + 1)) := by rw [Hid, HS'.out, if_neg (by simp)]
        clear HS'
        go_wp2_with fail
        go_roundw
        case rel => exact ⟨k + 1, by omega, by go_num, HR, HF'⟩
        case measure => simp [intOf]; omega
    · have HR : Hid (idxF true (xs.map p) = -1) := by
        have h1 := H.out.1
        rw [Hid, HS.out, List.drop_eq_nil_of_le (by simp; omega)]; rfl
      go_wp2_with fail
      go_ret
      exact ⟨retI HR.out.symm, HF.out⟩
/-- Has a row the block? -/
theorem hasBit_any (W : World) (q k B : Nat) (hk : k < B) (hq : W.cell? ⟨q, 0, none⟩ = some (.int .i64 k)) (hql : q < W.heap.size) (x : Rw) (hf : x.has.length = B) (A1 : Option Addr) (n1 c1 : Nat) (A2 : Option Addr) (n2 c2 : Nat) (h1 : Bol W (LT W.heap.size) A1 n1 c1 x.has) :
    Calls Try.prog 67 #[.agg #[.slice A1 n1 c1, .slice A2 n2 c2], .pointer (some ⟨q, 0, none⟩)] W fun e w' => e = .returned (.bool (x.bit k)) ∧ Fr W w' := by
  obtain rfl : n1 = B := h1.2.1.symm.trans hf
  obtain ⟨ad, rfl, hE⟩ := h1.2.els (by omega)
  obtain ⟨b, hb, hc⟩ := hE.bool hk
  have E : Hid (x.bit k = b) := by unfold Rw.bit; rw [Hid, List.getD_eq_getElem?_getD, hb]; rfl
  have hl : ad.block < W.heap.size := hE.2.1
  have g0 : ∀ o : Obj, (W.alloc o).cell? (ad.add k) = some (.bool b) := fun o => ((frAlloc W o).cell (by rw [block_of_add]; exact hl)).trans hc
  clear hE hb h1 hf hc
  go_enter Try.func67, Try.ntmps67
  go_wp2_with fail
  go_ret
  exact ⟨retB E.out.symm, frAlloc _ _⟩
end Go.Proofs.Ytnfjghldcopaaaa
namespace Go.Proofs.Ytnfjghldcopaaaa

def flip0 (l : List UInt8) : List UInt8 := l.set 0 (l.getD 0 0 ^^^ 1)
def flipSm (s : Sm) : Sm := ⟨s.id, flip0 s.data⟩
theorem decodeF_ok {B K : Int} {xs : List Sm} {c : List UInt8} (h : decodeF B K xs = (c, 0)) : cutCheck B K = 0 ∧ (decRows (blocksOf B K).toNat B K [] xs).2 = 0 ∧ (blocksOf B K).toNat ≤ (decRows (blocksOf B K).toNat B K [] xs).1.length ∧ joinUp B K (knownF (blocksOf B K).toNat (decRows (blocksOf B K).toNat B K [] xs).1) = (c, 0) := by
  unfold decodeF at h
  split at h
  · rename_i h1; injection h with _ h; exact absurd h h1
  · rename_i h1
    split at h
    · cases h
    · split at h
      · rename_i h2; injection h with _ h; exact absurd h h2
      · rename_i h2
        split at h
        · cases h
        · rename_i h3
          simp only [ne_eq, Decidable.not_not] at h1 h2
          exact ⟨h1, h2, by omega, h⟩
theorem never_flip {B K : Nat} {c : List UInt8} {xs : List Sm} (h : SymsOk B K c xs) {k : Nat} {x : Sm} (hx : xs[k]? = some x) : decodeF B K (xs.set k (flipSm x)) ≠ (c, 0) := by
  intro e
  obtain ⟨h1, h2, h3, h4⟩ := decodeF_ok e
  obtain ⟨q1, q2, q3, hall, hK⟩ := cutF_facts h.cut h.len
  have hb : (blocksOf B K).toNat = (cutF K B c).length := by omega
  rw [hb] at h2 h3 h4
  obtain ⟨hm, _⟩ := decRows_made (B := (B : Int)) ⟨q1, q2⟩ hK _ [] [] (made_nil _ _) h2
  rw [List.nil_append] at hm
  obtain ⟨rows, hrows⟩ : ∃ rows, rows = (decRows (cutF K B c).length B K [] (xs.set k (flipSm x))).1 := ⟨_, rfl⟩
  rw [← hrows] at h3 h4 hm
  have hkn : knownF (cutF K B c).length rows = cutF K B c := by
    have := cut_join (B := (B : Int)) (K := (K : Int)) (ls := knownF (cutF K B c).length rows) (by rw [h4])
    rw [h4, cutUp_ok h.cut h.len] at this
    exact (Prod.ext_iff.1 this).1.symm
  have hrow : ∀ o ∈ rows, Hold (cutF K B c) (vc o) := fun o ho => by
    obtain ⟨j, ej, hl, hj⟩ := hm.sys.leads ho
    obtain ⟨o', ho', ej', hu⟩ := full_unit hm.sys h3 j hj
    have := hm.sys.ech.inj (List.mem_map.2 ⟨o, ho, rfl⟩) (List.mem_map.2 ⟨o', ho', rfl⟩) (by simp only [ej, ej'])
    have hvo : vc o = vc o' := (Prod.ext_iff.1 this).2
    obtain rfl := vc_inj (hm.sys.fit o ho) (hm.sys.fit o' ho') hvo
    have hd := known_mem hm.sys ho hu
    rw [hkn, ej, Int.toNat_natCast] at hd
    intro i
    rw [evf_unit i (cutF K B c) _ j hl.1 ((unit_iff ej).1 hu)]
    have : (cutF K B c).getD j [] = o.data := by rw [List.getD_eq_getElem?_getD, hd]; rfl
    rw [this]; rfl
  have hkl := (List.getElem?_eq_some_iff.1 hx).1
  have hxm : flipSm x ∈ xs.set k (flipSm x) := List.mem_of_getElem? (List.getElem?_set_self hkl)
  have hflip : Hold (cutF K B c) (vc (symRow (cutF K B c).length (flipSm x))) := Hold.span (fun g ⟨a, ha, e⟩ => by
    obtain ⟨o, ho, rfl⟩ := List.mem_map.1 ha
    rw [← e]; exact hrow o ho) ((hm.span _).2 (.of ⟨_, hxm, rfl⟩))
  obtain ⟨hf, hh, _⟩ := h.hold x (List.mem_of_getElem? hx)
  have e1 : (flip0 x.data).getD 0 0 = evf (cutF K B c) _ 0 := hflip 0
  have e2 : x.data.getD 0 0 = evf (cutF K B c) _ 0 := hh 0
  have hdl : 0 < x.data.length := by have := hf.2; have e : x.data.length = K := this; omega
  have e3 : (flip0 x.data).getD 0 0 = x.data.getD 0 0 ^^^ 1 := by
    unfold flip0
    rw [List.getD_eq_getElem?_getD, List.getElem?_set_self hdl]; rfl
  have e4 : x.data.getD 0 0 ^^^ 1 = x.data.getD 0 0 := by rw [← e3, e1]; exact e2.symm
  have e5 : x.data.getD 0 0 ^^^ (x.data.getD 0 0 ^^^ 1) = x.data.getD 0 0 ^^^ x.data.getD 0 0 := by rw [e4]
  rw [← UInt8.xor_assoc, UInt8.xor_self, UInt8.zero_xor] at e5
  cases e5
theorem decode_none {B K : Nat} {c : List UInt8} (h : SymsOk B K c []) : decodeF B K [] = ([], 8) := by
  obtain ⟨rows, hm, e⟩ := h.rows
  have hr : rows.length = 0 := by
    rcases Nat.eq_zero_or_pos rows.length with h0 | h0
    · exact h0
    · have := made_le hm (made_nil _ K) fun x hx => hx
      simpa using this
  rw [e, if_pos (by have := (cutF_facts h.cut h.len).1; omega)]
theorem symsOk_of {B K : Nat} {c : List UInt8} (h1 : cutCheck B K = 0) (h2 : c.length = B) (ids : List Int) : SymsOk B K c (symsOf B K c ids) := ⟨h1, h2, length_symsOf _ _ _ _, symsOf_ok h1 h2 ids⟩
/-- The first symbols, as many as there are blocks, are enough. -/
theorem enough_first {B K : Nat} {c : List UInt8} {xs : List Sm} (h : SymsOk B K c xs) (hall : ∀ k : Nat, k < (cutF K B c).length → ∃ x ∈ xs, x.id = (k : Int)) : decodeF B K xs = (c, 0) := by
  obtain ⟨rows, hm, e⟩ := h.rows
  obtain ⟨q1, q2, _⟩ := cutF_facts h.cut h.len
  have hlen : (cutF K B c).length ≤ rows.length := by
    have hn : (List.range (cutF K B c).length).Nodup := List.nodup_range
    have := nodup_le hn (m := (pl rows).map (·.1)) fun k hk => by
      have hk := List.mem_range.1 hk
      obtain ⟨x, hx, hid⟩ := hall k hk
      have hs : Sp (pl rows) (vc (symRow (cutF K B c).length x)) := (hm.span _).2 (.of ⟨x, hx, rfl⟩)
      have hl : Lead (vc (symRow (cutF K B c).length x)) k := by
        have hp : pickHas x.id.toNat (cutF K B c).length = (noHas (cutF K B c).length).set k true := by
          rw [hid, Int.toNat_natCast]; unfold pickHas; rw [if_pos hk]
        refine ⟨?_, fun j hj => ?_⟩
        · show (pickHas x.id.toNat (cutF K B c).length).getD k false = true
          rw [hp, List.getD_eq_getElem?_getD, List.getElem?_set_self (by simpa [noHas] using hk)]; rfl
        · show (pickHas x.id.toNat (cutF K B c).length).getD j false = false
          rw [hp, List.getD_eq_getElem?_getD, List.getElem?_set_ne (by omega)]
          unfold noHas
          rw [List.getElem?_replicate, if_pos (by omega)]; rfl
      obtain ⟨a, ha, ea⟩ := span_lead hm.sys.ech hs hl
      exact List.mem_map.2 ⟨a, ha, ea⟩
    simpa [pl] using this
  rw [e, if_neg (by omega)]
end Go.Proofs.Ytnfjghldcopaaaa
namespace Go.Proofs.Ytnfjghldcopaaaa

/-- What is known of each block. -/
abbrev Kn := List (Option (List UInt8))
def Kn.isK (kn : Kn) (k : Nat) : Bool := (kn.getD k none).isSome
/-- Which of the first so many blocks that are in aren't known; the ones that are. -/
def miss (has : List Bool) (kn : Kn) (m : Nat) : List Nat := (List.range m).filter fun k => has.getD k false && !kn.isK k
def got (has : List Bool) (kn : Kn) (m : Nat) : List (List UInt8) := (List.range m).filterMap fun k => if has.getD k false then kn.getD k none else none
theorem miss_succ (has : List Bool) (kn : Kn) (m : Nat) : miss has kn (m + 1) = miss has kn m ++ if has.getD m false && !kn.isK m then [m] else [] := by
  unfold miss
  rw [List.range_succ, List.filter_append]
  congr 1
  cases h : (has.getD m false && !kn.isK m) <;> simp only [List.filter, h, if_true, Bool.false_eq_true, if_false]
theorem got_succ (has : List Bool) (kn : Kn) (m : Nat) : got has kn (m + 1) = got has kn m ++ (if has.getD m false then (kn.getD m none).toList else []) := by
  unfold got
  rw [List.range_succ, List.filterMap_append]
  congr 1
  cases h : has.getD m false <;> cases h2 : kn.getD m none <;> simp only [List.filterMap, h, h2, if_true, Bool.false_eq_true, if_false, Option.toList]
theorem got_mem {has : List Bool} {kn : Kn} {m : Nat} {l : List UInt8} (h : l ∈ got has kn m) : ∃ k : Nat, kn[k]? = some (some l) := by
  obtain ⟨k, _, hk⟩ := List.mem_filterMap.1 h
  refine ⟨k, ?_⟩
  split at hk
  · rw [List.getD_eq_getElem?_getD] at hk
    cases h2 : kn[k]? with
    | none => rw [h2] at hk; simp at hk
    | some x => rw [h2] at hk; simp at hk; rw [hk]
  · cases hk
theorem length_got (has : List Bool) (kn : Kn) (m : Nat) : (got has kn m).length ≤ m := by
  have := List.length_filterMap_le (fun k => if has.getD k false then kn.getD k none else none) (List.range m)
  simpa [got] using this
theorem length_miss (has : List Bool) (kn : Kn) (m : Nat) : (miss has kn m).length ≤ m := by
  have := List.length_filter_le (fun k => has.getD k false && !kn.isK k) (List.range m)
  simpa [miss] using this
/-- All that is known is as long as a block. -/
def KnLen (K : Nat) (kn : Kn) : Prop := ∀ (k : Nat) l, kn[k]? = some (some l) → l.length = K
/-- What a symbol with one block unknown tells. -/
def told (has : List Bool) (d : List UInt8) (kn : Kn) : List UInt8 := (sumAdd (d :: got has kn kn.length)).1
/-- One symbol. -/
def pOne (kn : Kn) (x : Sm) : Kn × List Sm × Bool :=
  if (miss (pickHas x.id.toNat kn.length) kn kn.length).length = 1 then (kn.set ((miss (pickHas x.id.toNat kn.length) kn kn.length).getLastD 0) (some (told (pickHas x.id.toNat kn.length) x.data kn)), [], true)
  else if 1 < (miss (pickHas x.id.toNat kn.length) kn kn.length).length then (kn, [x], false) else (kn, [], false)
def pRound : Kn → List Sm → Kn × List Sm × Bool
  | kn, [] => (kn, [], false)
  | kn, x :: xs => ((pRound (pOne kn x).1 xs).1, (pOne kn x).2.1 ++ (pRound (pOne kn x).1 xs).2.1, (pOne kn x).2.2 || (pRound (pOne kn x).1 xs).2.2)
def pRun : Nat → Kn → List Sm → Kn
  | 0, kn, _ => kn
  | f + 1, kn, xs => if (pRound kn xs).2.2 then pRun f (pRound kn xs).1 (pRound kn xs).2.1 else (pRound kn xs).1
def peelF (b : Nat) (xs : List Sm) : Kn := pRun (b + 1) (List.replicate b none) xs

theorem isK_set {kn : Kn} {a k : Nat} {l : List UInt8} (ha : a < kn.length) : Kn.isK (kn.set a (some l)) k = (kn.isK k || decide (k = a)) := by
  unfold Kn.isK
  rw [List.getD_eq_getElem?_getD, List.getD_eq_getElem?_getD, List.getElem?_set]
  by_cases h : a = k
  · subst h; simp [ha]
  · have h' : ¬ k = a := fun e => h e.symm
    simp [h, h']
theorem isK_iff {kn : Kn} {k : Nat} : kn.isK k = true ↔ ∃ l, kn[k]? = some (some l) := by
  unfold Kn.isK
  rw [List.getD_eq_getElem?_getD]
  cases h : kn[k]? with
  | none => simp
  | some x => cases x <;> simp
theorem isK_lt {kn : Kn} {k : Nat} (h : kn.isK k = true) : k < kn.length := by
  obtain ⟨l, h⟩ := isK_iff.1 h
  exact (List.getElem?_eq_some_iff.1 h).1
theorem mem_miss {has : List Bool} {kn : Kn} {m k : Nat} : k ∈ miss has kn m ↔ k < m ∧ has.getD k false = true ∧ kn.isK k = false := by
  simp [miss]
/-- The one that is lacking. -/
theorem one_miss {has : List Bool} {kn : Kn} {m : Nat} (h : (miss has kn m).length = 1) : ∃ a, miss has kn m = [a] ∧ (miss has kn m).getLastD 0 = a ∧ a < m ∧ has.getD a false = true ∧ kn.isK a = false := by
  obtain ⟨a, e⟩ := List.length_eq_one_iff.1 h
  refine ⟨a, e, by rw [e]; rfl, ?_⟩
  exact mem_miss.1 (by rw [e]; simp)
theorem miss_le {has : List Bool} {kn kn' : Kn} {m : Nat} (h : ∀ k, kn.isK k = true → kn'.isK k = true) : (miss has kn' m).length ≤ (miss has kn m).length := by
  unfold miss
  rw [← List.countP_eq_length_filter, ← List.countP_eq_length_filter]
  refine List.countP_mono_left fun k _ hk => ?_
  simp only [Bool.and_eq_true, Bool.not_eq_true'] at hk ⊢
  refine ⟨hk.1, ?_⟩
  cases e : kn.isK k with
  | false => rfl
  | true => rw [h k e] at hk; exact absurd hk.2 (by simp)

theorem pOne_cases (kn : Kn) (x : Sm) :
    (∃ a, (miss (pickHas x.id.toNat kn.length) kn kn.length) = [a] ∧ a < kn.length ∧ (pickHas x.id.toNat kn.length).getD a false = true ∧ kn.isK a = false ∧ pOne kn x = (kn.set a (some (told (pickHas x.id.toNat kn.length) x.data kn)), [], true)) ∨
    (1 < (miss (pickHas x.id.toNat kn.length) kn kn.length).length ∧ pOne kn x = (kn, [x], false)) ∨ ((miss (pickHas x.id.toNat kn.length) kn kn.length).length = 0 ∧ pOne kn x = (kn, [], false)) := by
  unfold pOne
  by_cases h1 : (miss (pickHas x.id.toNat kn.length) kn kn.length).length = 1
  · obtain ⟨a, e, e2, h3, h4, h5⟩ := one_miss h1
    exact .inl ⟨a, e, h3, h4, h5, by rw [if_pos h1, e2]⟩
  · rw [if_neg h1]
    by_cases h2 : 1 < (miss (pickHas x.id.toNat kn.length) kn kn.length).length
    · exact .inr (.inl ⟨h2, if_pos h2⟩)
    · exact .inr (.inr ⟨by omega, if_neg h2⟩)
theorem pOne_len (kn : Kn) (x : Sm) : (pOne kn x).1.length = kn.length := by
  rcases pOne_cases kn x with ⟨a, _, _, _, _, e⟩ | ⟨_, e⟩ | ⟨_, e⟩ <;> rw [e] <;> simp
theorem pRound_len : ∀ (xs : List Sm) (kn : Kn), (pRound kn xs).1.length = kn.length
  | [], _ => rfl
  | x :: xs, kn => by rw [pRound]; show (pRound (pOne kn x).1 xs).1.length = _; rw [pRound_len xs, pOne_len]
theorem pOne_grows {kn : Kn} {x : Sm} {k : Nat} (h : kn.isK k = true) : (pOne kn x).1.isK k = true := by
  rcases pOne_cases kn x with ⟨a, _, ha, _, _, e⟩ | ⟨_, e⟩ | ⟨_, e⟩
  · rw [e]; show Kn.isK (kn.set a _) k = true; rw [isK_set ha, h]; rfl
  · rw [e]; exact h
  · rw [e]; exact h
theorem pRound_grows : ∀ {xs : List Sm} {kn : Kn} {k : Nat}, kn.isK k = true → (pRound kn xs).1.isK k = true
  | [], _, _, h => h
  | x :: xs, kn, k, h => pRound_grows (xs := xs) (pOne_grows h)
theorem pRound_left : ∀ {xs : List Sm} {kn : Kn} {y : Sm}, y ∈ (pRound kn xs).2.1 → y ∈ xs
  | [], _, _, h => h
  | x :: xs, kn, y, h => by
    rcases List.mem_append.1 (show y ∈ (pOne kn x).2.1 ++ _ from h) with h | h
    · rcases pOne_cases kn x with ⟨a, _, _, _, _, e⟩ | ⟨_, e⟩ | ⟨_, e⟩ <;> rw [e] at h <;> simp at h
      subst h; simp
    · exact List.mem_cons_of_mem _ (pRound_left h)
theorem pRound_left_len : ∀ (xs : List Sm) (kn : Kn), (pRound kn xs).2.1.length ≤ xs.length
  | [], _ => Nat.le_refl _
  | x :: xs, kn => by
    have := pRound_left_len xs (pOne kn x).1
    rw [pRound]
    show ((pOne kn x).2.1 ++ (pRound (pOne kn x).1 xs).2.1).length ≤ _
    rcases pOne_cases kn x with ⟨a, _, _, _, _, e⟩ | ⟨_, e⟩ | ⟨_, e⟩ <;> rw [e] at this ⊢ <;> dsimp only at this ⊢ <;> simp only [List.nil_append, List.cons_append, List.length_cons] <;> omega
/-- How many aren't known yet. -/
def nones (kn : Kn) : Nat := kn.countP fun x => x.isNone
theorem nones_set {kn : Kn} {a : Nat} {l : List UInt8} (ha : a < kn.length) (h : kn.isK a = false) : nones (kn.set a (some l)) + 1 = nones kn := by
  unfold nones
  rw [List.countP_set ha]
  have h1 : kn[a] = none := by
    unfold Kn.isK at h
    rw [List.getD_eq_getElem?_getD, List.getElem?_eq_getElem ha] at h
    simpa using h
  have h2 : 0 < kn.countP fun x => x.isNone := List.countP_pos_iff.2 ⟨kn[a], List.getElem_mem ha, by rw [h1]; rfl⟩
  simp [h1]
  omega
theorem pOne_nones (kn : Kn) (x : Sm) : nones (pOne kn x).1 + (if (pOne kn x).2.2 then 1 else 0) = nones kn := by
  rcases pOne_cases kn x with ⟨a, _, ha, _, h, e⟩ | ⟨_, e⟩ | ⟨_, e⟩
  · rw [e]; exact nones_set ha h
  · rw [e]; rfl
  · rw [e]; rfl
theorem pRound_nones : ∀ (xs : List Sm) (kn : Kn), nones (pRound kn xs).1 + (if (pRound kn xs).2.2 then 1 else 0) ≤ nones kn
  | [], _ => Nat.le_refl _
  | x :: xs, kn => by
    have h1 := pOne_nones kn x
    have h2 := pRound_nones xs (pOne kn x).1
    rw [pRound]
    show nones (pRound (pOne kn x).1 xs).1 + (if ((pOne kn x).2.2 || (pRound (pOne kn x).1 xs).2.2) then 1 else 0) ≤ _
    cases e1 : (pOne kn x).2.2 <;> cases e2 : (pRound (pOne kn x).1 xs).2.2 <;> simp [e1, e2] at h1 h2 ⊢ <;> omega
/-- Nothing that came: all is as it was, and no symbol has one unknown. -/
theorem pRound_still : ∀ {xs : List Sm} {kn : Kn}, (pRound kn xs).2.2 = false → (pRound kn xs).1 = kn ∧ ∀ x ∈ xs, (miss (pickHas x.id.toNat kn.length) kn kn.length).length ≠ 1
  | [], _, _ => ⟨rfl, fun _ h => by cases h⟩
  | x :: xs, kn, h => by
    rw [pRound] at h ⊢
    obtain ⟨h1, h2⟩ := Bool.or_eq_false_iff.1 h
    obtain ⟨e, h3⟩ := pRound_still h2
    rcases pOne_cases kn x with ⟨a, _, _, _, _, e1⟩ | ⟨hm, e1⟩ | ⟨hm, e1⟩
    · rw [e1] at h1; cases h1
    · rw [e1] at e h3
      refine ⟨by show (pRound (pOne kn x).1 xs).1 = kn; rw [e1]; exact e, fun y hy => ?_⟩
      rcases List.mem_cons.1 hy with rfl | hy
      · omega
      · exact h3 y hy
    · rw [e1] at e h3
      refine ⟨by show (pRound (pOne kn x).1 xs).1 = kn; rw [e1]; exact e, fun y hy => ?_⟩
      rcases List.mem_cons.1 hy with rfl | hy
      · omega
      · exact h3 y hy
/-- What is left out has nothing unknown. -/
theorem pRound_drop : ∀ {xs : List Sm} {kn : Kn} {x : Sm}, x ∈ xs → x ∈ (pRound kn xs).2.1 ∨ (miss (pickHas x.id.toNat kn.length) (pRound kn xs).1 kn.length).length = 0
  | y :: xs, kn, x, h => by
    rw [pRound]
    show x ∈ (pOne kn y).2.1 ++ (pRound (pOne kn y).1 xs).2.1 ∨ (miss _ (pRound (pOne kn y).1 xs).1 _).length = 0
    rcases List.mem_cons.1 h with rfl | h
    · rcases pOne_cases kn x with ⟨a, hm, ha, _, _, e⟩ | ⟨_, e⟩ | ⟨hm, e⟩
      · right
        have h1 : ∀ k, (pOne kn x).1.isK k = true → (pRound (pOne kn x).1 xs).1.isK k = true := fun k hk => pRound_grows hk
        have h2 := miss_le (has := pickHas x.id.toNat kn.length) (m := kn.length) h1
        have h3 : (miss (pickHas x.id.toNat kn.length) (pOne kn x).1 kn.length) = [] := by
          rw [List.eq_nil_iff_forall_not_mem]
          intro k hk
          obtain ⟨k1, k2, k3⟩ := mem_miss.1 hk
          rw [e] at k3
          replace k3 : Kn.isK (kn.set a _) k = false := k3
          rw [isK_set ha, Bool.or_eq_false_iff] at k3
          have : k ∈ miss (pickHas x.id.toNat kn.length) kn kn.length := mem_miss.2 ⟨k1, k2, k3.1⟩
          rw [hm, List.mem_singleton] at this
          simp [this] at k3
        rw [h3] at h2
        simpa using h2
      · left; rw [e]; simp
      · right
        have h1 : ∀ k, kn.isK k = true → (pRound (pOne kn x).1 xs).1.isK k = true := fun k hk => pRound_grows (pOne_grows hk)
        have h2 := miss_le (has := pickHas x.id.toNat kn.length) (m := kn.length) h1
        omega
    · rcases pRound_drop (kn := (pOne kn y).1) h with h1 | h1
      · exact .inl (List.mem_append_right _ h1)
      · rw [pOne_len] at h1; exact .inr h1
theorem pRun_len : ∀ (f : Nat) (xs : List Sm) (kn : Kn), (pRun f kn xs).length = kn.length
  | 0, _, _ => rfl
  | f + 1, xs, kn => by
    rw [pRun]; split
    · rw [pRun_len f, pRound_len]
    · rw [pRound_len]
theorem pRun_grows : ∀ {f : Nat} {xs : List Sm} {kn : Kn} {k : Nat}, kn.isK k = true → (pRun f kn xs).isK k = true
  | 0, _, _, _, h => h
  | f + 1, xs, kn, k, h => by
    rw [pRun]; split
    · exact pRun_grows (pRound_grows h)
    · exact pRound_grows h
/-- In the end no symbol has one unknown. -/
theorem pRun_closed : ∀ {f : Nat} {xs : List Sm} {kn : Kn}, nones kn < f → ∀ x ∈ xs, (miss (pickHas x.id.toNat kn.length) (pRun f kn xs) kn.length).length ≠ 1
  | 0, _, _, h, _, _ => absurd h (Nat.not_lt_zero _)
  | f + 1, xs, kn, h, x, hx => by
    rw [pRun]
    have hn := pRound_nones xs kn
    cases hm : (pRound kn xs).2.2 with
    | true =>
      rw [hm] at hn
      simp at hn
      rw [if_pos rfl]
      rcases pRound_drop (kn := kn) hx with h1 | h1
      · have := pRun_closed (f := f) (xs := (pRound kn xs).2.1) (kn := (pRound kn xs).1) (by omega) x h1
        rw [pRound_len] at this
        exact this
      · have := miss_le (has := pickHas x.id.toNat kn.length) (kn := (pRound kn xs).1) (kn' := pRun f (pRound kn xs).1 (pRound kn xs).2.1) (m := kn.length) (fun k hk => pRun_grows hk)
        omega
    | false =>
      rw [if_neg (by simp)]
      obtain ⟨e, h1⟩ := pRound_still hm
      rw [e]
      exact h1 x hx
/-- Nothing is known that isn't in what is closed. -/
theorem pOne_in {T : Kn} {kn : Kn} {x : Sm} (hl : T.length = kn.length) (h : ∀ k, kn.isK k = true → T.isK k = true) (hx : (miss (pickHas x.id.toNat T.length) T T.length).length ≠ 1) : ∀ k, (pOne kn x).1.isK k = true → T.isK k = true := by
  intro k hk
  rcases pOne_cases kn x with ⟨a, hm, ha, hha, _, e⟩ | ⟨_, e⟩ | ⟨_, e⟩
  · rw [e] at hk
    replace hk : Kn.isK (kn.set a _) k = true := hk
    rw [isK_set ha, Bool.or_eq_true] at hk
    rcases hk with hk | hk
    · exact h k hk
    · obtain rfl := of_decide_eq_true hk
      rw [hl] at hx
      have h2 := miss_le (has := pickHas x.id.toNat kn.length) (m := kn.length) h
      rw [hm] at h2
      have h3 : (miss (pickHas x.id.toNat kn.length) T kn.length) = [] := List.length_eq_zero_iff.1 (by simp at h2; omega)
      cases e2 : T.isK k with
      | true => rfl
      | false =>
        have : k ∈ miss (pickHas x.id.toNat kn.length) T kn.length := mem_miss.2 ⟨ha, hha, e2⟩
        rw [h3] at this; cases this
  · rw [e] at hk; exact h k hk
  · rw [e] at hk; exact h k hk
theorem pRound_in {T : Kn} : ∀ {xs : List Sm} {kn : Kn}, T.length = kn.length → (∀ k, kn.isK k = true → T.isK k = true) → (∀ x ∈ xs, (miss (pickHas x.id.toNat T.length) T T.length).length ≠ 1) → ∀ k, (pRound kn xs).1.isK k = true → T.isK k = true
  | [], _, _, h, _ => h
  | x :: xs, kn, hl, h, hx => pRound_in (xs := xs) (by rw [pOne_len]; exact hl) (pOne_in hl h (hx x (by simp))) fun y hy => hx y (List.mem_cons_of_mem _ hy)
theorem pRun_in {T : Kn} : ∀ {f : Nat} {xs : List Sm} {kn : Kn}, T.length = kn.length → (∀ k, kn.isK k = true → T.isK k = true) → (∀ x ∈ xs, (miss (pickHas x.id.toNat T.length) T T.length).length ≠ 1) → ∀ k, (pRun f kn xs).isK k = true → T.isK k = true
  | 0, _, _, _, h, _ => h
  | f + 1, xs, kn, hl, h, hx => by
    intro k hk
    rw [pRun] at hk
    split at hk
    · exact pRun_in (f := f) (by rw [pRound_len]; exact hl) (pRound_in hl h hx) (fun y hy => hx y (pRound_left hy)) k hk
    · exact pRound_in hl h hx k hk
theorem length_peelF (b : Nat) (xs : List Sm) : (peelF b xs).length = b := by unfold peelF; rw [pRun_len]; simp
/-- With more symbols no less is known. -/
theorem peel_more {b : Nat} {xs ys : List Sm} (hle : ∀ x ∈ xs, x ∈ ys) {k : Nat} (h : (peelF b xs).isK k = true) : (peelF b ys).isK k = true := by
  refine pRun_in (T := peelF b ys) (by rw [length_peelF]; simp) (fun k hk => ?_) (fun x hx => ?_) k h
  · obtain ⟨l, hk⟩ := isK_iff.1 hk
    rw [List.getElem?_replicate] at hk
    split at hk <;> cases hk
  · rw [length_peelF]
    have := pRun_closed (f := b + 1) (xs := ys) (kn := List.replicate b none) (by unfold nones; rw [List.countP_replicate]; simp) x (hle x hx)
    unfold peelF
    simpa using this

/-- The row that says a block. -/
def uv (k : Nat) (x : List UInt8) : Vc := ⟨fun i => decide (i = k), fun i => x.getD i 0⟩
/-- Each block that is known is told by the symbols. -/
def Says (G : Vc → Prop) (kn : Kn) : Prop := ∀ (k : Nat) x, kn[k]? = some (some x) → Span G (uv k x)
theorem got_span {G : Vc → Prop} (h0 : Span G Vc.zero) {kn : Kn} (h : Says G kn) (has : List Bool) : ∀ m, ∃ v, Span G v ∧ (∀ i, v.h i = (decide (i < m) && has.getD i false && kn.isK i)) ∧ ∀ i, v.d i = (got has kn m).foldr (fun l a => l.getD i 0 ^^^ a) 0
  | 0 => ⟨Vc.zero, h0, fun i => by simp [Vc.zero], fun i => rfl⟩
  | m + 1 => by
    obtain ⟨v, h1, h2, h3⟩ := got_span h0 h has m
    have hf : ∀ (l : List (List UInt8)) (y : List UInt8) (i : Nat), (l ++ [y]).foldr (fun l a => l.getD i 0 ^^^ a) 0 = (l.foldr (fun l a => l.getD i 0 ^^^ a) 0 ^^^ y.getD i 0) := by
      intro l y i
      induction l with
      | nil => simp
      | cons z l ih => simp only [List.cons_append, List.foldr_cons, ih, UInt8.xor_assoc]
    by_cases hh : has.getD m false = true ∧ kn.isK m = true
    · obtain ⟨x, hx⟩ := isK_iff.1 hh.2
      refine ⟨v + uv m x, h1.plus (h m x hx), fun i => ?_, fun i => ?_⟩
      · rw [Vc.add_h, h2]
        show (_ ^^ decide (i = m)) = _
        rcases Nat.lt_trichotomy i m with h4 | h4 | h4
        · simp [h4, show i < m + 1 by omega, show i ≠ m by omega]
        · subst h4; simp only [hh.1, hh.2, Nat.lt_irrefl, decide_false, Bool.false_and, decide_true]; simp
        · simp [show ¬ i < m by omega, show ¬ i < m + 1 by omega, show i ≠ m by omega]
      · have e : kn.getD m none = some x := by rw [List.getD_eq_getElem?_getD, hx]; rfl
        rw [Vc.add_d, h3, got_succ, hh.1, if_pos rfl, e]
        show _ = (got has kn m ++ [x]).foldr _ 0
        rw [hf]; rfl
    · refine ⟨v, h1, fun i => ?_, fun i => ?_⟩
      · rw [h2]
        rcases Nat.lt_trichotomy i m with h4 | h4 | h4
        · simp [h4, show i < m + 1 by omega]
        · subst h4
          have : (has.getD i false && kn.isK i) = false := by
            cases e1 : has.getD i false <;> cases e2 : kn.isK i <;> simp_all
          simp only [Bool.and_assoc, this, Bool.and_false]
        · simp [show ¬ i < m by omega, show ¬ i < m + 1 by omega]
      · rw [h3, got_succ]
        have : (if has.getD m false = true then (kn.getD m none).toList else []) = [] := by
          split
          · rename_i h5
            have h6 : kn.isK m = false := by
              cases e2 : kn.isK m
              · rfl
              · exact absurd ⟨h5, e2⟩ hh
            unfold Kn.isK at h6
            cases e3 : kn.getD m none with
            | none => rfl
            | some y => rw [e3] at h6; cases h6
          · rfl
        rw [this, List.append_nil]
/-- What a symbol tells with what is known. -/
theorem told_facts {K : Nat} (hK : 1 ≤ K ∧ K ≤ 16) {kn : Kn} (hl : KnLen K kn) (has : List Bool) {d : List UInt8} (hd : d.length = K) :
    sumAdd (d :: got has kn kn.length) = (told has d kn, 0) ∧ (told has d kn).length = K ∧ ∀ i, (told has d kn).getD i 0 = (d.getD i 0 ^^^ (got has kn kn.length).foldr (fun l a => l.getD i 0 ^^^ a) 0) := by
  have hall : ∀ l ∈ d :: got has kn kn.length, l.length = K := by
    intro l hl2
    rcases List.mem_cons.1 hl2 with rfl | hl2
    · exact hd
    · obtain ⟨k, hk⟩ := got_mem hl2
      exact hl k l hk
  have hc : sumCheck (d :: got has kn kn.length) = 0 := by
    unfold sumCheck
    exact sumCheckFrom_of (n0 := K) (by omega) (by omega) hall |> (by rw [List.headD_cons, hd]; exact ·)
  have e : sumAdd (d :: got has kn kn.length) = (xorAll K (d :: got has kn kn.length), 0) := by
    rw [sumAdd, if_neg (by simp [hc]), if_neg (by simp), List.headD_cons, hd]
  have et : told has d kn = xorAll K (d :: got has kn kn.length) := by unfold told; rw [e]
  refine ⟨by rw [e, et], by rw [et]; exact length_xorAll hall (by simp [zeros]), fun i => ?_⟩
  rw [et]
  unfold xorAll
  rw [foldl_getD _ _ hall (by simp [zeros])]
  have : (zeros K).getD i 0 = 0 := by unfold zeros; simp [List.getD_eq_getElem?_getD, List.getElem?_replicate]; split <;> rfl
  rw [this, UInt8.zero_xor, List.foldr_cons]
/-- Symbols of a plan. -/
def SmFit (K : Nat) (xs : List Sm) : Prop := ∀ x ∈ xs, x.data.length = K
theorem pOne_knLen {K : Nat} (hK : 1 ≤ K ∧ K ≤ 16) {kn : Kn} (hl : KnLen K kn) {x : Sm} (hx : x.data.length = K) : KnLen K (pOne kn x).1 := by
  rcases pOne_cases kn x with ⟨a, hm, ha, hha, _, e⟩ | ⟨_, e⟩ | ⟨_, e⟩
  · rw [e]
    intro k l hk
    replace hk : (kn.set a _)[k]? = some (some l) := hk
    rw [List.getElem?_set] at hk
    split at hk
    · simp [ha] at hk
      rw [← hk]; exact (told_facts hK hl _ hx).2.1
    · exact hl k l hk
  · rw [e]; exact hl
  · rw [e]; exact hl
theorem pOne_says {K : Nat} (hK : 1 ≤ K ∧ K ≤ 16) {G : Vc → Prop} (h0 : Span G Vc.zero) {kn : Kn} (hl : KnLen K kn) (h : Says G kn) {x : Sm} (hx : x.data.length = K) (hG : G (vc (symRow kn.length x))) : Says G (pOne kn x).1 := by
  rcases pOne_cases kn x with ⟨a, hm, ha, hha, hak, e⟩ | ⟨_, e⟩ | ⟨_, e⟩
  · rw [e]
    intro k l hk
    replace hk : (kn.set a _)[k]? = some (some l) := hk
    rw [List.getElem?_set] at hk
    split at hk
    · rename_i hka
      subst hka
      simp [ha] at hk
      obtain ⟨v, hv, v1, v2⟩ := got_span h0 h (pickHas x.id.toNat kn.length) kn.length
      have : uv a l = vc (symRow kn.length x) + v := by
        refine Vc.ext' (fun i => ?_) fun i => ?_
        · rw [Vc.add_h, v1]
          show decide (i = a) = ((pickHas x.id.toNat kn.length).getD i false ^^ _)
          have hmem : (i ∈ miss (pickHas x.id.toNat kn.length) kn kn.length) ↔ i = a := by rw [hm, List.mem_singleton]
          rw [mem_miss] at hmem
          by_cases hi : i = a
          · subst hi; rw [hha, hak]; simp
          · have hlt : (pickHas x.id.toNat kn.length).getD i false = true → i < kn.length := by
              intro hp
              rw [List.getD_eq_getElem?_getD] at hp
              rcases Nat.lt_or_ge i kn.length with h1 | h1
              · exact h1
              · rw [List.getElem?_eq_none (by rw [length_pickHas]; exact h1)] at hp; cases hp
            cases e1 : (pickHas x.id.toNat kn.length).getD i false with
            | false => simp [hi]
            | true =>
              have h1 := hlt e1
              cases e2 : kn.isK i with
              | true => simp [h1, hi]
              | false => exact absurd (hmem.1 ⟨h1, e1, e2⟩) hi
        · rw [Vc.add_d, v2]
          show l.getD i 0 = _
          rw [← hk]; exact (told_facts hK hl _ hx).2.2 i
      rw [this]
      exact (Span.of hG).plus hv
    · exact h k l hk
  · rw [e]; exact h
  · rw [e]; exact h
structure Good (b K : Nat) (G : Vc → Prop) (kn : Kn) : Prop where
  len : kn.length = b
  all : KnLen K kn
  says : Says G kn
theorem pRound_good {b K : Nat} (hK : 1 ≤ K ∧ K ≤ 16) {G : Vc → Prop} (h0 : Span G Vc.zero) : ∀ {xs : List Sm} {kn : Kn}, Good b K G kn → (∀ x ∈ xs, x.data.length = K ∧ G (vc (symRow b x))) → Good b K G (pRound kn xs).1
  | [], _, h, _ => h
  | x :: xs, kn, h, hx => by
    obtain ⟨h1, h2⟩ := hx x (by simp)
    refine pRound_good hK h0 (xs := xs) ⟨(pOne_len kn x).trans h.len, pOne_knLen hK h.all h1, pOne_says hK h0 h.all h.says h1 (by rw [h.len]; exact h2)⟩ fun y hy => hx y (List.mem_cons_of_mem _ hy)
theorem pRun_good {b K : Nat} (hK : 1 ≤ K ∧ K ≤ 16) {G : Vc → Prop} (h0 : Span G Vc.zero) : ∀ {f : Nat} {xs : List Sm} {kn : Kn}, Good b K G kn → (∀ x ∈ xs, x.data.length = K ∧ G (vc (symRow b x))) → Good b K G (pRun f kn xs)
  | 0, _, _, h, _ => h
  | f + 1, xs, kn, h, hx => by
    rw [pRun]; split
    · exact pRun_good hK h0 (pRound_good hK h0 h hx) fun y hy => hx y (pRound_left hy)
    · exact pRound_good hK h0 h hx
theorem good_none (b K : Nat) (G : Vc → Prop) : Good b K G (List.replicate b none) := by
  have : ∀ (k : Nat) (x : List UInt8), ¬ (List.replicate b (none : Option (List UInt8)))[k]? = some (some x) := fun k x h => by
    rw [List.getElem?_replicate] at h
    split at h <;> cases h
  exact ⟨by simp, fun k l h => absurd h (this k l), fun k x h => absurd h (this k x)⟩
theorem knLen_of {b K : Nat} (hK : 1 ≤ K ∧ K ≤ 16) {xs : List Sm} (hx : SmFit K xs) : KnLen K (peelF b xs) :=
  (pRun_good (G := fun _ => True) hK (.of trivial) (good_none b K _) fun x h => ⟨hx x h, trivial⟩).all
theorem peel_good {B K : Nat} {c : List UInt8} {xs : List Sm} (h : SymsOk B K c xs) (hne : xs ≠ []) : Good (cutF K B c).length K (GS (cutF K B c).length xs) (peelF (cutF K B c).length xs) := by
  obtain ⟨q1, q2, q3, hall, hK⟩ := cutF_facts h.cut h.len
  obtain ⟨x, hx⟩ := List.exists_mem_of_ne_nil _ hne
  have h1 : Span (GS (cutF K B c).length xs) (vc (symRow (cutF K B c).length x)) := .of ⟨x, hx, rfl⟩
  have h0 : Span (GS (cutF K B c).length xs) Vc.zero := by rw [← Vc.self (vc (symRow (cutF K B c).length x))]; exact h1.plus h1
  exact pRun_good hK h0 (good_none _ _ _) fun y hy => ⟨(h.hold y hy).1.2, y, hy, rfl⟩
theorem peel_empty (b : Nat) : peelF b [] = List.replicate b none := by
  unfold peelF pRun
  rw [pRound]; rfl
/-- What is known is true. -/
theorem peel_true {B K : Nat} {c : List UInt8} {xs : List Sm} (h : SymsOk B K c xs) {k : Nat} {x : List UInt8} (hk : (peelF (cutF K B c).length xs)[k]? = some (some x)) : (cutF K B c)[k]? = some x := by
  by_cases hne : xs = []
  · rw [hne, peel_empty, List.getElem?_replicate] at hk
    split at hk <;> cases hk
  · obtain ⟨q1, q2, q3, hall, hK⟩ := cutF_facts h.cut h.len
    have hg := peel_good h hne
    have hlt : k < (cutF K B c).length := by
      have := (List.getElem?_eq_some_iff.1 hk).1
      rw [hg.len] at this; exact this
    have hh : Hold (cutF K B c) (uv k x) := Hold.span (fun g ⟨y, hy, e⟩ => by rw [e]; exact (h.hold y hy).2.1) (hg.says k x hk)
    have hx : x = (cutF K B c)[k] := by
      refine list_ext_getD (d := 0) (by rw [hg.all k x hk, hall _ (List.getElem_mem hlt)]) fun i => ?_
      have := hh i
      rw [evf_unit i (cutF K B c) (uv k x).h k (by simp [uv]) (fun j hj => by simp [uv, hj]), show (cutF K B c).getD k [] = (cutF K B c)[k] from by rw [List.getD_eq_getElem?_getD, List.getElem?_eq_getElem hlt]; rfl] at this
      exact this
    rw [List.getElem?_eq_getElem hlt, hx]
/-- Where all is known so, the cargo is. -/
theorem peel_whole {B K : Nat} {c : List UInt8} {xs : List Sm} (h : SymsOk B K c xs) (hw : ∀ k, k < (cutF K B c).length → (peelF (cutF K B c).length xs).isK k = true) : decodeF B K xs = (c, 0) := by
  obtain ⟨q1, q2, q3, hall, hK⟩ := cutF_facts h.cut h.len
  have hne : xs ≠ [] := by
    rintro rfl
    have := hw 0 (by omega)
    rw [peel_empty] at this
    obtain ⟨l, this⟩ := isK_iff.1 this
    rw [List.getElem?_replicate] at this
    split at this <;> cases this
  have hg := peel_good h hne
  obtain ⟨rows, hm, e⟩ := h.rows
  have hlen : (cutF K B c).length ≤ rows.length := by
    have hn : (List.range (cutF K B c).length).Nodup := List.nodup_range
    have := nodup_le hn (m := (pl rows).map (·.1)) fun k hk => by
      have hk := List.mem_range.1 hk
      obtain ⟨x, hx⟩ := isK_iff.1 (hw k hk)
      have hs : Sp (pl rows) (uv k x) := (hm.span _).2 (hg.says k x hx)
      have hl : Lead (uv k x) k := ⟨by simp [uv], fun j hj => by simp [uv]; omega⟩
      obtain ⟨a, ha, ea⟩ := span_lead hm.sys.ech hs hl
      exact List.mem_map.2 ⟨a, ha, ea⟩
    simpa [pl] using this
  rw [e, if_neg (by omega)]
end Go.Proofs.Ytnfjghldcopaaaa
namespace Go.Proofs.Ytnfjghldcopaaaa
open Go.RowKit

/-- What is known of a block, as its cell. -/
def KnV (K : Nat) (w : World) (S : Nat → Prop) (v : Value) (x : Option (List UInt8)) : Prop :=
  (x = none ∧ v = .slice none 0 0) ∨ ∃ l ad c, x = some l ∧ v = .slice (some ad) K c ∧ (K ≤ c ∧ c ≤ maxLen) ∧ Sl 1 eByte w S (some ad) K l
theorem KnV.chg {K : Nat} {w w' : World} {S T : Nat → Prop} {v : Value} {x : Option (List UInt8)} (h : KnV K w S v x) (k : Chg T w w') (hd : ∀ b, S b → b < w.heap.size ∧ ¬ T b) : KnV K w' S v x := by
  rcases h with h | ⟨l, ad, c, h1, h2, h3, h4⟩
  · exact .inl h
  · exact .inr ⟨l, ad, c, h1, h2, h3, h4.chg sByte k hd⟩
theorem KnV.more {K : Nat} {w : World} {S T : Nat → Prop} {v : Value} {x : Option (List UInt8)} (h : KnV K w S v x) (hd : ∀ b, S b → T b) : KnV K w T v x := by
  rcases h with h | ⟨l, ad, c, h1, h2, h3, h4⟩
  · exact .inl h
  · exact .inr ⟨l, ad, c, h1, h2, h3, h4.more sByte hd⟩
/-- What is known, as a row of cells. -/
def KnM (K : Nat) (w : World) (S : Nat → Prop) (g : Nat) (kn : Kn) : Prop :=
  ∃ vs : List Value, w.heap[g]? = some (.cells vs.toArray 27 (0, 0)) ∧ vs.length = kn.length ∧ ∀ (i : Nat) (x : Option (List UInt8)), kn[i]? = some x → ∃ v, vs[i]? = some v ∧ KnV K w S v x
theorem KnM.lt {K : Nat} {w : World} {S : Nat → Prop} {g : Nat} {kn : Kn} (h : KnM K w S g kn) : g < w.heap.size := by
  obtain ⟨vs, h, _⟩ := h
  exact (Array.getElem?_eq_some_iff.1 h).1
theorem KnM.chg {K : Nat} {w w' : World} {S T : Nat → Prop} {g : Nat} {kn : Kn} (h : KnM K w S g kn) (k : Chg T w w') (hg : ¬ T g) (hd : ∀ b, S b → b < w.heap.size ∧ ¬ T b) : KnM K w' S g kn := by
  obtain ⟨vs, h1, h2, h3⟩ := h
  exact ⟨vs, k.blk h1 hg, h2, fun i x hx => by obtain ⟨v, hv, hk⟩ := h3 i x hx; exact ⟨v, hv, hk.chg k hd⟩⟩
theorem KnM.fr {K : Nat} {w w' : World} {S : Nat → Prop} {g : Nat} {kn : Kn} (h : KnM K w S g kn) (k : Fr w w') (hd : ∀ b, S b → b < w.heap.size) : KnM K w' S g kn :=
  h.chg (T := fun _ => False) k.chg (fun e => e) fun b hb => ⟨hd b hb, fun e => e⟩
theorem KnM.more {K : Nat} {w : World} {S T : Nat → Prop} {g : Nat} {kn : Kn} (h : KnM K w S g kn) (hd : ∀ b, S b → T b) : KnM K w T g kn := by
  obtain ⟨vs, h1, h2, h3⟩ := h
  exact ⟨vs, h1, h2, fun i x hx => by obtain ⟨v, hv, hk⟩ := h3 i x hx; exact ⟨v, hv, hk.more hd⟩⟩
theorem KnM.free {K : Nat} {w : World} {S : Nat → Prop} {g i : Nat} {kn : Kn} (h : KnM K w S g kn) : w.frozen? ⟨g, i, none⟩ = false := by
  obtain ⟨vs, h, _⟩ := h
  exact blk_free h
theorem KnM.get {K : Nat} {w : World} {S : Nat → Prop} {g i : Nat} {kn : Kn} (h : KnM K w S g kn) (hi : i < kn.length) : ∃ x v, kn[i]? = some x ∧ w.cell? ⟨g, i, none⟩ = some v ∧ KnV K w S v x := by
  obtain ⟨vs, h1, h2, h3⟩ := h
  obtain ⟨v, hv, hk⟩ := h3 i _ (List.getElem?_eq_getElem hi)
  exact ⟨_, v, List.getElem?_eq_getElem hi, by rw [cell_of_heap h1, List.getElem?_toArray]; exact hv, hk⟩
theorem KnM.set {K : Nat} {w : World} {S : Nat → Prop} {g i c : Nat} {ad : Addr} {l : List UInt8} {kn : Kn} (h : KnM K w S g kn) (hS : ¬ S g) (hi : i < kn.length) (hc : K ≤ c ∧ c ≤ maxLen) (hl : Sl 1 eByte w S (some ad) K l) :
    KnM K (w.setCell ⟨g, i, none⟩ (.slice (some ad) K c)) S g (kn.set i (some l)) := by
  obtain ⟨vs, h1, h2, h3⟩ := h
  have hk : ∀ p : Addr, S p.block → (w.setCell ⟨g, i, none⟩ (.slice (some ad) K c)).cell? p = w.cell? p := fun p hp => World.cell?_setCell_other w _ p _ fun e => by subst e; exact hS hp
  refine ⟨vs.set i (.slice (some ad) K c), ?_, by simp [h2], fun j x hx => ?_⟩
  · simp [World.setCell, Array.getElem?_modify, h1]
  · rw [List.getElem?_set] at hx
    split at hx
    · rename_i e
      subst e
      injection hx with hx
      exact ⟨_, List.getElem?_set_self (by omega), .inr ⟨l, ad, c, hx.symm, rfl, hc, hl.keep sByte hk⟩⟩
    · rename_i e
      obtain ⟨v, hv, hkv⟩ := h3 j x hx
      refine ⟨v, by rw [List.getElem?_set_ne e]; exact hv, ?_⟩
      rcases hkv with h | ⟨l', ad', c', q1, q2, q3, q4⟩
      · exact .inl h
      · exact .inr ⟨l', ad', c', q1, q2, q3, q4.keep sByte hk⟩

/-- 's == nil'. -/
theorem wpList_nil {P : Program} {w : World} {ops : Array Oper} {rest : List Oper} {o : Oper} {a : Act} {Q : Exit → Act → World → Prop} (hw : Region.wanted o (yielded ops a.tmps) = true) (s : Operand) (t t' e : TypeId) (ho : o.op = .binOp .eql t s (.const (.slice none 0 0)) t') (ht : P.underlying t = some (.slice e)) {A : Option Addr} {n c : Nat} (hs : a.eval s = .slice A n c) (x : Bool) (hx : A.isNone = x)
    (h : wpList P ops Q rest (a.put o.dst (.bool x)) w) : wpList P ops Q (o :: rest) a w := by
  refine wpList_step fun K hK => ?_
  rw [if_pos hw]
  have h1 : a.eval (.const (.slice none 0 0)) = .slice none 0 0 := rfl
  have h2 : (eqGuard .eql t s (.const (.slice none 0 0)) (.slice A n c) (.slice none 0 0)) = pure () := rfl
  have h3 : (binOp .eql t (.slice A n c) (.slice none 0 0)).run P w = .ok (.bool A.isNone) w := run_eql_slice_nil w t e A n c ht
  unfold Oper.wp execOp
  simp only [ho]
  rw [hs, h1, h2]
  simp only [Sem.run_bind, Sem.run_pure, Result.andThen_ok, h3]
  subst hx
  exact hK _ _ h

/-- 's != nil'. -/
theorem wpList_nnil {P : Program} {w : World} {ops : Array Oper} {rest : List Oper} {o : Oper} {a : Act} {Q : Exit → Act → World → Prop} (hw : Region.wanted o (yielded ops a.tmps) = true) (s : Operand) (t t' e : TypeId) (ho : o.op = .binOp .neq t s (.const (.slice none 0 0)) t') (ht : P.underlying t = some (.slice e)) {A : Option Addr} {n c : Nat} (hs : a.eval s = .slice A n c) (x : Bool) (hx : (!A.isNone) = x)
    (h : wpList P ops Q rest (a.put o.dst (.bool x)) w) : wpList P ops Q (o :: rest) a w := by
  refine wpList_step fun K hK => ?_
  rw [if_pos hw]
  have h1 : a.eval (.const (.slice none 0 0)) = .slice none 0 0 := rfl
  have h2 : (eqGuard .neq t s (.const (.slice none 0 0)) (.slice A n c) (.slice none 0 0)) = pure () := rfl
  have h3 : (binOp .neq t (.slice A n c) (.slice none 0 0)).run P w = .ok (.bool (!A.isNone)) w := run_neq_slice_nil w t e A n c ht
  unfold Oper.wp execOp
  simp only [ho]
  rw [hs, h1, h2]
  simp only [Sem.run_bind, Sem.run_pure, Result.andThen_ok, h3]
  subst hx
  exact hK _ _ h

section
variable {α : Type} {size : Nat} {r : ERd α}
theorem eLow_iff {N : Nat} {w : World} {S : Nat → Prop} {f : Nat → Option Value} {x : α} : eLow N r w S f x ↔ r w (fun b => S b ∧ b < N) f x := Iff.rfl
/-- A store between turns nothing of an own slice whose elements lie below. -/
theorem Own.lowChg {N base : Nat} {w w' : World} {e : TypeId} {v : Value} {xs : List α} {T : Nat → Prop} (s : Stable size r) (h : Own size (eLow N r) w base e v xs) (k : Chg T w w') (hT : ∀ b, T b → N ≤ b ∧ b < base) : Own size (eLow N r) w' base e v xs := by
  obtain ⟨cs, ho, hr⟩ := h
  refine ⟨cs, ⟨ho.1, ?_⟩, fun i x hx => ?_⟩
  · rcases ho.2 with h0 | ⟨g, cap, cur, h1, h2, h3, h4⟩
    · exact .inl h0
    · exact .inr ⟨g, cap, cur, h1, h2, k.blk h3 (fun e => by have := hT g e; omega), h4⟩
  · exact s.more (fun b hb => ⟨⟨Nat.lt_of_lt_of_le hb.1.1 k.size, hb.1.2⟩, hb.2⟩) (s.keep (fun p hp => k.cell hp.1.1 fun e => by have := hT _ e; have := hp.2; omega) (hr i x hx))
/-- It reads as a list, off what lies below and what is its own. -/
theorem Own.lowOut {N base : Nat} {w : World} {e : TypeId} {v : Value} {xs : List α} (s : Stable size r) (h : Own size (eLow N r) w base e v xs) : ∃ A c, v = .slice A xs.length c ∧ (xs.length ≤ c ∧ c ≤ maxLen) ∧ Sl size (eLow N r) w (fun b => b < w.heap.size ∧ (b < N ∨ base ≤ b)) A xs.length xs := by
  obtain ⟨cs, ho, hr⟩ := h
  rcases ho.2 with ⟨rfl, h0⟩ | ⟨g, cap, cur, rfl, hbg, hg, hnc, hcm, hcs, htake⟩
  · exact ⟨none, 0, by rw [h0], ⟨by omega, by unfold maxLen; omega⟩, rfl, fun hn => by omega⟩
  · refine ⟨some ⟨g, 0, none⟩, cap, rfl, ⟨hnc, hcm⟩, rfl, fun hn => ⟨_, rfl, ⟨(Array.getElem?_eq_some_iff.1 hg).1, .inr hbg⟩, fun i x hx => ?_⟩⟩
    refine s.mono (fun j u hj hu => ?_) (s.more (fun b hb => ⟨⟨hb.1.1, .inl hb.2⟩, hb.2⟩) (hr i x hx))
    rw [zero_add_addr, cell_of_heap hg]
    rw [← htake, List.getElem?_take] at hu
    split at hu
    · simpa using hu
    · cases hu
theorem Own.lt {base : Nat} {w : World} {e : TypeId} {v : Value} {xs : List α} (h : Own size r w base e v xs) {b : Nat} (hb : v.ownBlock = some b) : base ≤ b ∧ b < w.heap.size := by
  obtain ⟨cs, ho, _⟩ := h
  exact ho.lt b hb
theorem Own.isSl {base : Nat} {w : World} {e : TypeId} {v : Value} {xs : List α} (h : Own size r w base e v xs) : ∃ A n c, v = .slice A n c := by
  obtain ⟨cs, ho, _⟩ := h
  rcases ho.2 with ⟨h0, _⟩ | ⟨g, cap, cur, h0, _⟩
  · exact ⟨_, _, _, h0⟩
  · exact ⟨_, _, _, h0⟩
/-- One element laid alone. -/
theorem own_one {base : Nat} {w : World} {e : TypeId} {b : Nat} {vs : List Value} {y : α} (s : Stable size r) (hb : base ≤ b) (h : w.heap[b]? = some (.cells vs.toArray e (0, 0))) (hl : vs.length = size) (hy : r w (fun x => x < w.heap.size ∧ x ≠ b) (fun j => vs[j]?) y) :
    Own size r w base e (.slice (some ⟨b, 0, none⟩) 1 1) [y] := by
  refine ⟨vs, ⟨by simp [hl], .inr ⟨b, 1, vs.toArray, by simp, hb, h, by simp, by unfold maxLen; omega, by simp [hl], by simp [← hl]⟩⟩, fun i x hx => ?_⟩
  obtain rfl : i = 0 := by have := (List.getElem?_eq_some_iff.1 hx).1; simp at this; omega
  obtain rfl : y = x := by simpa using hx
  simp only [Nat.zero_mul, Nat.zero_add]
  exact s.more (fun x hx => ⟨hx.1, fun e => hx.2 (by simp [Value.ownBlock] at e; exact e.symm)⟩) hy

theorem app_o {P : Program} {W0 W1 : World} {base e b t ty : TypeId} {news : List Value} {te : TypeId} {v : Value} {xs : List α} {y : α} {fr : Nat × Nat} {i : TypeInfo} {z : Value} {bytes : Nat} (st : Stable size r) (ht : P.underlying t = some (.slice e)) (hi1 : P.info? e = some i) (hi2 : i.zero = some z) (hi3 : i.size = size) (hi4 : i.bytes = bytes)
    (hzs : z.cells.size = size) (hsz : 0 < size) (hown : Own size r W0 base e v xs) (hf : Fr W0 W1) (hblk : W1.heap[b]? = some (.cells news.toArray te fr)) (hl : news.length = size) (h1 : ∀ u ∈ news, u.oneCell' = true)
    (hy : r W0 (fun b => b < W0.heap.size ∧ v.ownBlock ≠ some b) (fun j => news[j]?) y) (h63 : xs.length + 1 ≤ maxLen) (hbytes : (xs.length + 1) * bytes ≤ lim) (hbase : base ≤ W0.heap.size) :
    ∃ v' w', (Builtin.append_ #[t, t] ty #[v, .slice (some ⟨b, 0, none⟩) 1 1]).run P W1 = .ok v' w' ∧ Own size r w' base e v' (xs ++ [y]) ∧ Chg (fun k => v.ownBlock = some k) W0 w' ∧ ∀ k, v'.ownBlock = some k → v.ownBlock = some k ∨ W0.heap.size ≤ k := by
  obtain ⟨q1, q2, q3⟩ := app1_pre (P := P) st hown hf hblk hl hy
  obtain ⟨cs, hrow, hr⟩ := q1
  obtain ⟨v', w', hrun, g2, g3, g4, g5⟩ := run_append_own_at (P := P) W1 base t ty e i z size bytes ht hi1 hi2 hi3 hi4 hzs hsz v xs.length cs hrow ⟨b, 0, none⟩ 1 1 news (by rw [Nat.one_mul]; exact hl) q2 h1 h63 hbytes (Nat.le_trans hbase hf.size)
  have hg : Chg (fun k => v.ownBlock = some k) W1 w' := ⟨g3.os, g3.tape, g3.output, g3.size, fun k hk hs => g3.block k hk fun e => hs e.symm⟩
  refine ⟨v', w', hrun, own_apps st hr hrow.1 rfl q3 g2 g3 g5, hf.chg.trans hg, fun k hk => ?_⟩
  rcases g5 with g5 | g5
  · exact .inl (g5.symm.trans hk)
  · rw [g5] at hk
    injection hk with hk
    exact .inr (by rw [← hk]; exact hf.size)
/-- 'append(v, y)' as wpList_app1 has it; and where what is new lies. -/
theorem wpList_app1o {P : Program} {W1 : World} {ops : Array Oper} {rest : List Oper} {o : Oper} {a : Act} {Q : Exit → Act → World → Prop} (hgd : o.guard = none) (s x : Operand) (t : TypeId)
    (ho : o.op = .call { callee := .builtin .append, args := #[s, x], argTypes := #[t, t] })
    (base : Nat) (e : TypeId) (z : Value) (bytes : Nat) (ht : P.underlying t = some (.slice e)) (hi : (P.info? e).map (fun i => (i.zero, i.size, i.bytes)) = some (some z, size, bytes))
    (hzs : z.cells.size = size) (hsz : 0 < size) (st : Stable size r)
    (W0 : World) (hf : Fr W0 W1) (v : Value) (xs : List α) (hs : a.eval s = v) (hown : Own size r W0 base e v xs)
    (b : Nat) (news : List Value) (te : TypeId) (fr : Nat × Nat) (hx : a.eval x = .slice (some ⟨b, 0, none⟩) 1 1) (hblk : W1.heap[b]? = some (.cells news.toArray te fr)) (hl : news.length = size) (h1 : ∀ u ∈ news, u.oneCell' = true)
    (y : α) (hy : r W0 (fun b => b < W0.heap.size ∧ v.ownBlock ≠ some b) (fun j => news[j]?) y)
    (h63 : xs.length + 1 ≤ maxLen) (hbytes : (xs.length + 1) * bytes ≤ lim) (hbase : base ≤ W0.heap.size)
    (h : ∀ v' w', Hid (Own size r w' base e v' (xs ++ [y])) → Hid (Chg (fun k => v.ownBlock = some k) W0 w') → Hid (∀ k, v'.ownBlock = some k → v.ownBlock = some k ∨ W0.heap.size ≤ k) → wpList P ops Q rest (a.put o.dst v') w') : wpList P ops Q (o :: rest) a W1 := by
  obtain ⟨i, hi1, hi2⟩ := Option.map_eq_some_iff.1 hi
  simp only [Prod.mk.injEq] at hi2
  refine wpList_plain hgd fun K hK => ?_
  obtain ⟨v', w', hrun, k1, k2, k3⟩ := app_o (P := P) (ty := o.type) st ht hi1 hi2.1 hi2.2.1 hi2.2.2 hzs hsz hown hf hblk hl h1 hy h63 hbytes hbase
  unfold Oper.wp execOp
  simp only [ho, resolve, invoke, builtin, Sem.run_bind, Sem.run_pure, Result.andThen_ok, List.map_toArray, List.map_cons, List.map_nil, hs, hx, hrun]
  exact hK _ _ (h v' w' k1 k2 k3)
/-- The same as a step of a region that draws its order. -/
theorem step_app1o {P : Program} {W1 : World} {ops : Array Oper} {o : Oper} {a : Act} {K : Act → World → Prop} {Q : Exit → Act → World → Prop} {E : Prop} (hgd : o.guard = none) (s x : Operand) (t : TypeId)
    (ho : o.op = .call { callee := .builtin .append, args := #[s, x], argTypes := #[t, t] })
    (base : Nat) (e : TypeId) (z : Value) (bytes : Nat) (ht : P.underlying t = some (.slice e)) (hi : (P.info? e).map (fun i => (i.zero, i.size, i.bytes)) = some (some z, size, bytes))
    (hzs : z.cells.size = size) (hsz : 0 < size) (st : Stable size r)
    (W0 : World) (hf : Fr W0 W1) (v : Value) (xs : List α) (hs : a.eval s = v) (hown : Own size r W0 base e v xs)
    (b : Nat) (news : List Value) (te : TypeId) (fr : Nat × Nat) (hx : a.eval x = .slice (some ⟨b, 0, none⟩) 1 1) (hblk : W1.heap[b]? = some (.cells news.toArray te fr)) (hl : news.length = size) (h1 : ∀ u ∈ news, u.oneCell' = true)
    (y : α) (hy : r W0 (fun b => b < W0.heap.size ∧ v.ownBlock ≠ some b) (fun j => news[j]?) y)
    (h63 : xs.length + 1 ≤ maxLen) (hbytes : (xs.length + 1) * bytes ≤ lim) (hbase : base ≤ W0.heap.size)
    (h : ∀ v' w', Hid (Own size r w' base e v' (xs ++ [y])) → Hid (Chg (fun k => v.ownBlock = some k) W0 w') → Hid (∀ k, v'.ownBlock = some k → v.ownBlock = some k ∨ W0.heap.size ≤ k) → K (a.put o.dst v') w') :
    if Region.wanted o (yielded ops a.tmps) = true then Oper.wp P o a W1 K Q else E := by
  have hw : Region.wanted o (yielded ops a.tmps) = true := by simp [Region.wanted, hgd]
  rw [if_pos hw]
  obtain ⟨i, hi1, hi2⟩ := Option.map_eq_some_iff.1 hi
  simp only [Prod.mk.injEq] at hi2
  obtain ⟨v', w', hrun, k1, k2, k3⟩ := app_o (P := P) (ty := o.type) st ht hi1 hi2.1 hi2.2.1 hi2.2.2 hzs hsz hown hf hblk hl h1 hy h63 hbytes hbase
  unfold Oper.wp execOp
  simp only [ho, resolve, invoke, builtin, Sem.run_bind, Sem.run_pure, Result.andThen_ok, List.map_toArray, List.map_cons, List.map_nil, hs, hx, hrun]
  exact h v' w' k1 k2 k3
end
end Go.Proofs.Ytnfjghldcopaaaa
