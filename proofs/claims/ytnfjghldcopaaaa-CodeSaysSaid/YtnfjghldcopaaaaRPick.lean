/- Contract of the reference's Picked. No condition. -/
import Derived.Test.YtnfjghldcopaaaaRPickP
import Derived.Test.YtnfjghldcopaaaaPick
import Derived.Test.YtnfjghldcopaaaaIdx
import Derived.Test.YtnfjghldcopaaaaSum
import Derived.Test.YtnfjghldcopaaaaShelfB
import Derived.Sort.OwnSortedInts
import Derived.Deep.CutBlock
import Derived.Deep.DeepCutAuto
import Derived.Deep.Cut
set_option linter.unusedSimpArgs false
set_option linter.unusedVariables false
namespace Go.Proofs.Ytnfjghldcopaaaa
open Go.RowKit
attribute [local irreducible] wpList

theorem infoInt : (Try.prog.info? 3).map (fun i => (i.zero, i.size, i.bytes)) = some (some (.int .i64 0), 1, 8) := by kernel_rfl

theorem own_ints {w : World} {base : Nat} {e : TypeId} {v : Value} {ls : List Int} (h : Own 1 eInt w base e v ls) (hn : 0 < ls.length) :
    ∃ (g cap : Nat) (cur : Array Value), v = .slice (some ⟨g, 0, none⟩) ls.length cap ∧ base ≤ g ∧ w.heap[g]? = some (.cells cur e (0, 0)) ∧ ls.length ≤ cap ∧ cap ≤ maxLen ∧ cur.size = cap * 1 ∧ cur.toList.take ls.length = ls.map (Value.int .i64) ∧ ∀ x ∈ ls, wfI x := by
  obtain ⟨cs, ho, hr⟩ := h
  have hlen := ho.1
  rcases ho.2 with ⟨rfl, h0⟩ | ⟨g, cap, cur, rfl, hbg, hg, hnc, hcm, hcs, htake⟩
  · omega
  · refine ⟨g, cap, cur, rfl, hbg, hg, hnc, hcm, hcs, ?_, fun x hx => ?_⟩
    · rw [Nat.mul_one] at htake hlen
      rw [htake]
      apply List.ext_getElem (by simp [hlen])
      intro i h1 h2
      have := (hr i ls[i] (by rw [List.getElem?_eq_getElem])).1
      simp only [Nat.mul_one, Nat.add_zero] at this
      rw [List.getElem?_eq_getElem h1] at this
      simpa using this
    · obtain ⟨i, hi, rfl⟩ := List.mem_iff_getElem.1 hx
      exact (hr i ls[i] (by rw [List.getElem?_eq_getElem])).2
theorem sl_ints {w : World} {base g cap : Nat} {e : TypeId} {ts : List Int} (h : w.ownsRow base e 1 (.slice (some ⟨g, 0, none⟩) ts.length cap) ts.length (ts.map (Value.int .i64))) (hw : ∀ x ∈ ts, wfI x) : Sl 1 eInt w (LT w.heap.size) (some ⟨g, 0, none⟩) ts.length ts := by
  have ho : Own 1 eInt w base e (.slice (some ⟨g, 0, none⟩) ts.length cap) ts := ⟨_, h, fun i x hx => ⟨by simp [hx], hw x (List.mem_of_getElem? hx)⟩⟩
  obtain ⟨A, c, e1, _, hs⟩ := ho.slC sInt (by decide)
  injection e1 with e1
  subst e1
  exact hs
theorem selIdx_wf {l : List Bool} (h : l.length ≤ 24) : ∀ x ∈ selIdx l, wfI x := by
  intro x hx
  obtain ⟨k, rfl, hk⟩ := (Sel.idx l).bd x hx
  exact wfI.mk (by omega)
set_option maxRecDepth 100000 in
set_option maxHeartbeats 1000000 in
theorem refPicked_more (w : World) (id b : Nat) (h1 : b ≤ id) (h2 : b ≤ 24) (h3 : 1 ≤ b) (h4 : id ≤ 9999) :
    Calls Try.prog 30 #[.int .i64 id, .int .i64 b] w fun e w' => ∃ A n c, e = .returned (.tuple #[.slice A n c, .int .i64 0]) ∧ (n ≤ c ∧ c ≤ maxLen) ∧ Sl 1 eInt w' (LT w'.heap.size) A n (selIdx (pickHas id b)) ∧ Fr w w' := by
  have hlt0 : decide ((id : Int) < (b : Int)) = false := by simp; omega
  have hlt1 : decide (id < b) = false := by simp; omega
  have r1 : inR id 0 9999 = true := inR_t (by omega)
  have r2 : inR b 1 24 = true := inR_t (by omega)
  obtain ⟨x, hx⟩ : ∃ x, x = nxt id := ⟨_, rfl⟩
  have hxi : ((id : Int) * 1109 + 12345) % 65536 = (x : Int) := by rw [hx]; unfold nxt; omega
  have hxl : x < 65536 := by rw [hx]; exact nxt_lt id
  have hE : Hid (pickHas id b = pickLoop b fuel x (degree x b) (noHas b)) := by rw [Hid, hx]; unfold pickHas; rw [if_neg (by omega)]
  have hd := degree_bd x b h3
  have hen : Hid (Enough b fuel x (degree x b) (noHas b)) := enough_new h2 (by simp [noHas]) (by rw [cnt_noHas]; omega) (by unfold fuel; omega)
  have HX := Lib.hid hxi
  clear hx hxi
  go_enter Try.func30, Try.ntmps30
  go_upto_block 0 with (go_at_call 61; refine (in_any _ _ _ _).mono ?_; rintro e w' ⟨rfl, rfl⟩)
  rw [HX.out]
  obtain ⟨W1, hW1⟩ : ∃ W1, W1 = w.alloc (.cells #[.int .i64 8192, .int .i64 40960, .int .i64 51882, .int .i64 57344, .int .i64 60621] 3) := ⟨_, rfl⟩
  have HF1 : Hid (Fr w W1) := by rw [hW1]; exact frAlloc _ _
  have hb1 : W1.heap[w.heap.size]? = some (.cells #[.int .i64 8192, .int .i64 40960, .int .i64 51882, .int .i64 57344, .int .i64 60621] 3 (0, 0)) := by rw [hW1]; exact heap_new rfl
  have hc0 : W1.cell? ⟨w.heap.size, 0, none⟩ = some (.int .i64 8192) := cell_of_heap hb1
  have hc1 : W1.cell? ⟨w.heap.size, 1, none⟩ = some (.int .i64 40960) := cell_of_heap hb1
  have hc2 : W1.cell? ⟨w.heap.size, 2, none⟩ = some (.int .i64 51882) := cell_of_heap hb1
  have hc3 : W1.cell? ⟨w.heap.size, 3, none⟩ = some (.int .i64 57344) := cell_of_heap hb1
  have hc4 : W1.cell? ⟨w.heap.size, 4, none⟩ = some (.int .i64 60621) := cell_of_heap hb1
  rw [← hW1]
  clear hW1 hb1
  go_cut [7] (fun s7 wx => s7 = .int .i64 (degree x b : Nat) ∧ W1 = wx)
  case first =>
    go_wp2_with fail
    go_loop [7, 34] (fun m i => ∃ k : Nat, k ≤ 5 ∧ i = .int .i64 k ∧ m = .int .i64 (max 1 ((b : Int) / 2)) ∧ (if k = 0 then 0 else if k = 1 then 8192 else if k = 2 then 40960 else if k = 3 then 51882 else if k = 4 then 57344 else 60621) ≤ (x : Int)) (fun _ i => 5 - (intOf i).toNat)
    case atStart => exact ⟨0, Nat.zero_le _, rfl, rfl, by simp⟩
    case round =>
      obtain ⟨k, hk, rfl, rfl, hx2⟩ := hrel
      rcases (show k = 0 ∨ k = 1 ∨ k = 2 ∨ k = 3 ∨ k = 4 ∨ k = 5 from by omega) with rfl | rfl | rfl | rfl | rfl | rfl
      · have hx3 : (0 : Int) ≤ x := by omega
        clear hx2
        by_cases hlt : (x : Int) < 8192
        · have E : Hid ((degree x b : Int) = min (1 : Int) b) := by
            unfold Hid degree
            repeat' (first | rw [if_pos (by omega)] | rw [if_neg (by omega)])
            omega
          clear hx3
          have hb1 : decide ((x : Int) < 8192) = true := decide_eq_true hlt
          clear hlt
          by_cases hbk : (1 : Int) ≤ b
          all_goals
            go_wp2_with fail
            go_meet
            exact ⟨by rw [E.out] <;> congr 1 <;> omega, rfl⟩
        · clear hx3
          have hb1 : decide ((x : Int) < 8192) = false := decide_eq_false hlt
          have HLT := Lib.hid hlt
          clear hlt
          go_wp2_with fail
          go_round
          case rel => exact ⟨_, by decide, rfl, rfl, by have := HLT.out; simp; omega⟩
          case measure => simp [intOf]
      · have hx3 : (8192 : Int) ≤ x := by omega
        clear hx2
        by_cases hlt : (x : Int) < 40960
        · have E : Hid ((degree x b : Int) = min (2 : Int) b) := by
            unfold Hid degree
            repeat' (first | rw [if_pos (by omega)] | rw [if_neg (by omega)])
            omega
          clear hx3
          have hb1 : decide ((x : Int) < 40960) = true := decide_eq_true hlt
          clear hlt
          by_cases hbk : (2 : Int) ≤ b
          all_goals
            go_wp2_with fail
            go_meet
            exact ⟨by rw [E.out] <;> congr 1 <;> omega, rfl⟩
        · clear hx3
          have hb1 : decide ((x : Int) < 40960) = false := decide_eq_false hlt
          have HLT := Lib.hid hlt
          clear hlt
          go_wp2_with fail
          go_round
          case rel => exact ⟨_, by decide, rfl, rfl, by have := HLT.out; simp; omega⟩
          case measure => simp [intOf]
      · have hx3 : (40960 : Int) ≤ x := by omega
        clear hx2
        by_cases hlt : (x : Int) < 51882
        · have E : Hid ((degree x b : Int) = min (3 : Int) b) := by
            unfold Hid degree
            repeat' (first | rw [if_pos (by omega)] | rw [if_neg (by omega)])
            omega
          clear hx3
          have hb1 : decide ((x : Int) < 51882) = true := decide_eq_true hlt
          clear hlt
          by_cases hbk : (3 : Int) ≤ b
          all_goals
            go_wp2_with fail
            go_meet
            exact ⟨by rw [E.out] <;> congr 1 <;> omega, rfl⟩
        · clear hx3
          have hb1 : decide ((x : Int) < 51882) = false := decide_eq_false hlt
          have HLT := Lib.hid hlt
          clear hlt
          go_wp2_with fail
          go_round
          case rel => exact ⟨_, by decide, rfl, rfl, by have := HLT.out; simp; omega⟩
          case measure => simp [intOf]
      · have hx3 : (51882 : Int) ≤ x := by omega
        clear hx2
        by_cases hlt : (x : Int) < 57344
        · have E : Hid ((degree x b : Int) = min (4 : Int) b) := by
            unfold Hid degree
            repeat' (first | rw [if_pos (by omega)] | rw [if_neg (by omega)])
            omega
          clear hx3
          have hb1 : decide ((x : Int) < 57344) = true := decide_eq_true hlt
          clear hlt
          by_cases hbk : (4 : Int) ≤ b
          all_goals
            go_wp2_with fail
            go_meet
            exact ⟨by rw [E.out] <;> congr 1 <;> omega, rfl⟩
        · clear hx3
          have hb1 : decide ((x : Int) < 57344) = false := decide_eq_false hlt
          have HLT := Lib.hid hlt
          clear hlt
          go_wp2_with fail
          go_round
          case rel => exact ⟨_, by decide, rfl, rfl, by have := HLT.out; simp; omega⟩
          case measure => simp [intOf]
      · have hx3 : (57344 : Int) ≤ x := by omega
        clear hx2
        by_cases hlt : (x : Int) < 60621
        · have E : Hid ((degree x b : Int) = min (5 : Int) b) := by
            unfold Hid degree
            repeat' (first | rw [if_pos (by omega)] | rw [if_neg (by omega)])
            omega
          clear hx3
          have hb1 : decide ((x : Int) < 60621) = true := decide_eq_true hlt
          clear hlt
          by_cases hbk : (5 : Int) ≤ b
          all_goals
            go_wp2_with fail
            go_meet
            exact ⟨by rw [E.out] <;> congr 1 <;> omega, rfl⟩
        · clear hx3
          have hb1 : decide ((x : Int) < 60621) = false := decide_eq_false hlt
          have HLT := Lib.hid hlt
          clear hlt
          go_wp2_with fail
          go_round
          case rel => exact ⟨_, by decide, rfl, rfl, by have := HLT.out; simp; omega⟩
          case measure => simp [intOf]
      · have hx3 : (60621 : Int) ≤ x := by simp at hx2 ⊢; omega
        clear hx2
        have E : Hid ((degree x b : Int) = max 1 ((b : Int) / 2)) := by
          unfold Hid degree
          repeat' (rw [if_neg (by omega)])
          omega
        clear hx3
        go_wp2_with fail
        all_goals
          go_meet
          exact ⟨by rw [E.out], rfl⟩
  case rest =>
    obtain ⟨rfl, rfl⟩ := hcut
    obtain ⟨D, hD⟩ : ∃ D, D = degree x b := ⟨_, rfl⟩
    rw [← hD] at hd hen hE ⊢
    obtain ⟨hd1, hd2⟩ := hd
    clear hc0 hc1 hc2 hc3 hc4 hD HX
    go_wp2_with fail
    go_loopg [6, 10] fuel (fun g s6 s10 wr => ∃ (xx mm : Nat) (has : List Bool) (ls : List Int), s6 = .int .i64 xx ∧ mm + ls.length = D ∧ Hid (xx < 65536) ∧ Hid (Enough b g xx mm has) ∧ Hid (Sel has ls) ∧ Hid (Own 1 eInt wr w.heap.size 3 s10 ls) ∧ Hid (pickHas id b = pickLoop b g xx mm has) ∧ Hid (Below w.heap.size w wr))
    case atStart => exact ⟨x, D, noHas b, [], rfl, by simp, hxl, hen, Sel.new b, Own.nil, hE, HF1.out⟩
    case round =>
      obtain ⟨xx, mm, has, ls, rfl, hml, HX, HE, HS, HO, HP, HB⟩ := hrel
      have hlen : has.length = b := HE.out.len
      by_cases h0 : mm = 0
      · have HR : Hid (has = pickHas id b) := by
          rw [Hid, HP.out, h0]
          cases gk with
          | zero => rfl
          | succ n => rw [pickLoop, if_pos rfl]
        obtain ⟨g, cap, cur, rfl, hbg, hg, hnc, hcm, hcs, htk, hwf⟩ := own_ints HO.out (by omega)
        have hll : ls.length < 4611686018427387904 := by omega
        have HH := Lib.hid (holds_of_blockI hg htk)
        have hgl : g < wr.heap.size := (Array.getElem?_eq_some_iff.1 hg).1
        have hlt2 : decide ((ls.length : Int) < (D : Int)) = false := by simp; omega
        have hlt3 : decide (ls.length < D) = false := by simp; omega
        have HST := Lib.hid HS.out.sorted
        have HPL := Lib.hid (HS.out.perm (Sel.idx has)).length_eq
        have HWF : Hid (∀ x ∈ selIdx has, wfI x) := selIdx_wf (by omega)
        clear HP HE h0 htk hml
        (have Hg := Lib.hid hg; clear hg; have Hcs := Lib.hid hcs; clear hcs; have Hwf := Lib.hid hwf; clear hwf)
        go_wp2_with fail
        (with_reducible refine (Try.slices_Sort_int g 0 cap ls wr HH.out hgl hll).mono ?_)
        rintro e w2 ⟨rfl, n2, os2, rfl⟩
        rw [HST.out]
        have HOW := Lib.hid (ownsRow_sortedI (n := n2) (os := os2) HPL.out.symm hbg Hg.out hnc hcm Hcs.out)
        have HF2 : Hid (Fr w (Go.Sort.grow (Go.Sort.putRow (Value.int .i64) (Go.Sort.ahead wr n2) g 0 (selIdx has).toArray) os2)) := HB.out.grown (grownBy_sortedI _) HB.out.size (fun k hk => by injection hk with hk; omega)
        obtain ⟨W3, hW3⟩ : ∃ W3, W3 = Go.Sort.grow (Go.Sort.putRow (Value.int .i64) (Go.Sort.ahead wr n2) g 0 (selIdx has).toArray) os2 := ⟨_, rfl⟩
        rw [← hW3] at HOW HF2 ⊢
        clear hW3
        go_wp2_with fail
        go_ret2
        rw [← HR.out]
        rw [HPL.out] at hnc HOW ⊢
        exact ⟨_, _, _, rfl, ⟨hnc, hcm⟩, sl_ints HOW.out HWF.out, HF2.out⟩
      · obtain ⟨hg, hs1, hs2⟩ := enough_step h2 (by omega) HE.out
        have hm0 : decide ((ls.length : Int) < (D : Int)) = true := by simp; omega
        have hm1 : decide (ls.length < D) = true := by simp; omega
        obtain ⟨x', hx'⟩ : ∃ x', x' = nxt xx := ⟨_, rfl⟩
        have HXX : Hid (((xx : Int) * 1109 + 12345) % 65536 = (x' : Int)) := by rw [Hid, hx']; unfold nxt; omega
        obtain ⟨k, hk⟩ : ∃ k, k = x' / 7 % b := ⟨_, rfl⟩
        have hkb : k < b := by rw [hk]; exact Nat.mod_lt _ (by omega)
        have hx1 : Hid (x' < 65536) := by rw [hx']; exact nxt_lt xx
        have hx0 : (xx : Int) < 65536 := by have := HX.out; omega
        have hx2 : (x' : Int) < 65536 := by have := hx1.out; omega
        rw [← hx', ← hk] at hs1 hs2
        have HP' : Hid (pickHas id b = if has.getD k false then pickLoop b (gk - 1) x' mm has else pickLoop b (gk - 1) x' (mm - 1) (has.set k true)) := by
          rw [Hid, HP.out]
          conv => lhs; rw [show gk = (gk - 1) + 1 from by omega, pickLoop, if_neg h0, ← hx', ← hk]
        have hw7 : wrap64 ((x' : Int) / 7) = (x' : Int) / 7 := IntWalk.wrap64_in _ (by have := hx1.out; omega)
        have hke : ((x' : Int) / 7).tmod (b : Int) = (k : Int) := by rw [Int.tmod_eq_emod_of_nonneg (by omega), hk]; simp
        have hke2 : ((x' : Int) / 7) % (b : Int) = (k : Int) := by rw [hk]; simp
        have hb0 : ((b : Int) == 0) = false := by rw [beq_eq_false_iff_ne]; omega
        have hx7 : 0 ≤ (x' : Int) / 7 := by omega
        obtain ⟨A1, c1, rfl, ⟨hc1, hm2⟩, hsl⟩ := HO.out.slC sInt (by decide)
        have HSL := Lib.hid hsl
        have hlm : ls.length ≤ maxLen := by unfold maxLen; omega
        have hdec : Hid (decide ((k : Int) ∈ ls) = has.getD k false) := by
          have := HS.out.iff k (by omega)
          rw [Hid]
          cases hgk : has.getD k false
          · rw [hgk] at this; simp; intro e; have := this.2 e; cases this
          · rw [hgk] at this; simpa using this
        have HKE := Lib.hid (And.intro hke hke2)
        have HW7 := Lib.hid hw7
        clear HP HE hx' hk hsl hke hke2 hw7
        go_upto_region 16 with fail
        rw [HXX.out]
        have hke := HKE.out.1
        have hke2 := HKE.out.2
        have hw7 := HW7.out
        go_upto_region 17 with fail
        clear hke hke2 hw7
        go_wp2_with fail
        (with_reducible refine (containsInt_any _ _ _ _ _ ls (k : Int) HSL.out hlm).mono ?_)
        rw [hdec.out]
        rintro e w2 ⟨rfl, rfl⟩
        by_cases hh : has.getD k false = true
        · have HE' := Lib.hid (hs1 hh)
          have HR : Hid (pickHas id b = pickLoop b (gk - 1) x' mm has) := by rw [Hid, HP'.out, if_pos hh]
          rw [hh]
          clear hs1 hs2 hh HP' hdec
          go_wp2_with fail
          go_roundg (gk - 1)
          case measure => omega
          case rel => exact ⟨x', mm, has, ls, rfl, hml, hx1, HE', HS, HO, HR, HB⟩
        · have hh' : has.getD k false = false := by simpa using hh
          have HE' := Lib.hid (hs2 hh')
          have HR : Hid (pickHas id b = pickLoop b (gk - 1) x' (mm - 1) (has.set k true)) := by rw [Hid, HP'.out, if_neg hh]
          have HS' : Hid (Sel (has.set k true) (ls ++ [(k : Int)])) := HS.out.add (by omega) hh'
          have hwk : wfI (k : Int) := wfI.mk (by omega)
          have hml' : mm - 1 + (ls ++ [(k : Int)]).length = D := by simp; omega
          have hll : ls.length ≤ 24 := by omega
          rw [hh']
          clear hs1 hs2 hh HP' hdec hh'
          (have Hml' := Lib.hid hml'; clear hml')
          go_wp2_with (at_builtin; refine wpList_apps _ rfl _ _ 48 rfl w.heap.size 3 (.int .i64 0) 1 8 Try.underlying48 infoInt rfl (by decide) sInt _ ls rfl (HO.out.fr sInt (frAlloc _ _)) ⟨wr.heap.size, 0, none⟩ 1 1 [.int .i64 (k : Int)] rfl rfl (cell_one_new _ _ _) ?c2 [(k : Int)] rfl ?c3 ?c4 ?c5 ?c6 ?_)
          case c2 => intro u hu; simp at hu; subst hu; rfl
          case c3 =>
            intro i y hy
            obtain rfl : i = 0 := by have := (List.getElem?_eq_some_iff.1 hy).1; simp at this; omega
            obtain rfl : (k : Int) = y := by simpa using hy
            exact ⟨rfl, hwk⟩
          case c4 => unfold maxLen; omega
          case c5 => unfold lim; omega
          case c6 => have := HB.out.size; simp; omega
          · intro v' w3 hown' hg' hge
            have HO' := Lib.hid hown'
            have HB' : Hid (Fr w w3) := (frA HB.out _).grown hg' (by have := HB.out.size; simp; omega) hge
            clear hown' hg' hge
            go_wp2_with fail
            go_roundg (gk - 1)
            case measure => omega
            case rel => exact ⟨x', mm - 1, has.set k true, ls ++ [(k : Int)], rfl, Hml'.out, hx1, HE', HS', HO', HR, HB'⟩
end Go.Proofs.Ytnfjghldcopaaaa
