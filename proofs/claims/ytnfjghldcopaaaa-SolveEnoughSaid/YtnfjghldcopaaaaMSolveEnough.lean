/- 'SolveEnough' answers true for every input, and leaves its arguments as they were. No condition. -/
import Derived.Test.YtnfjghldcopaaaaNeverP
import Derived.Test.YtnfjghldcopaaaaConcat
import Derived.Test.YtnfjghldcopaaaaSolveNever
import Derived.Test.YtnfjghldcopaaaaBox
import Derived.Test.YtnfjghldcopaaaaOpen
import Derived.Test.YtnfjghldcopaaaaOpenR
set_option linter.unusedSimpArgs false
set_option linter.unusedVariables false
namespace Go.Proofs.Ytnfjghldcopaaaa

/-- The first numbers. -/
def firstInts (b : Nat) : List Int := (List.range b).map Int.ofNat
theorem firstInts_len (b : Nat) : (firstInts b).length = b := by simp [firstInts]
theorem firstInts_succ (b : Nat) : firstInts (b + 1) = firstInts b ++ [(b : Int)] := by simp [firstInts, List.range_succ]
theorem enough_syms {B K : Nat} {c : List UInt8} (h : cutCheck B K = 0) (hl : c.length = B) (ids : List Int) (hi : ids.length ≤ 30) : decodeF B K (symsOf B K c (ids ++ firstInts (cutF K B c).length)) = (c, 0) := by
  obtain ⟨q1, q2, _⟩ := cutF_facts h hl
  refine enough_first (symsOk_of h hl _) fun k hk => ?_
  obtain ⟨s, e, hid, _⟩ := symOpt_ok h hl (k : Int)
  refine ⟨s, ?_, by rw [hid]; omega⟩
  unfold symsOf
  rw [List.take_of_length_le (by rw [List.length_append, firstInts_len]; omega)]
  exact List.mem_flatMap.2 ⟨(k : Int), List.mem_append_right _ (List.mem_map.2 ⟨k, List.mem_range.2 hk, rfl⟩), by rw [e]; simp⟩
end Go.Proofs.Ytnfjghldcopaaaa
namespace Go.Proofs.Ytnfjghldcopaaaa
set_option maxRecDepth 100000
open Go.RowKit

theorem infoIntE : (Try.prog.info? 3).map (fun i => (i.zero, i.size, i.bytes)) = some (some (.int .i64 0), 1, 8) := by kernel_rfl
theorem growInts_nil (w : World) (n : Nat) (hm : n * 8 ≤ lim) (h63 : n ≤ lim) :
    Calls Try.prog 75 #[.slice none 0 0, .int .i64 n] w fun e w' => ∃ v, e = .returned v ∧ Own 1 eInt w' w.heap.size 3 v ([] : List (Int)) ∧ Fr w w' := by
  obtain ⟨i0, hi0, hi1⟩ := Option.map_eq_some_iff.1 infoIntE
  simp only [Prod.mk.injEq] at hi1
  obtain ⟨hz0, hz1, hz2⟩ := hi1
  unfold lim at h63 hm
  have h1 : ¬ ((n : Int) < 0) := by omega
  by_cases h0 : n = 0
  · subst h0
    clear hi0 hz0 hz1 hz2
    go_enter Try.func75, Try.ntmps75
    go_wp2
    go_ret
    exact ⟨_, rfl, Own.nil, Below.refl _ _⟩
  · have h4 : (n : Int) > 0 := by omega
    obtain ⟨G, hG⟩ : ∃ G, G = grownCap w n 0 3 := ⟨_, rfl⟩
    obtain ⟨cur, hcur⟩ : ∃ cur, cur = Builtin.zeroCells ((.int .i64 0) : Value).cells n ++ Builtin.zeroCells ((.int .i64 0) : Value).cells (G - n) := ⟨_, rfl⟩
    have hge := grownCap_ge w n 0 3
    have hle := grownCap_le_maxLen w n 0 3 (by unfold maxLen; omega)
    rw [← hG] at hge hle
    have hcs : cur.size = G * 1 := by
      rw [hcur, Array.size_append, size_zeroCells, size_zeroCells, ← Nat.add_mul]
      show (n + (G - n)) * 1 = G * 1
      congr 1; omega
    have hrz : Hid (∀ ty, (Builtin.append_ #[48, 3] ty #[.slice none 0 0, .int .i64 (n : Int)]).run Try.prog w = .ok (.slice (some ⟨w.heap.size, 0, none⟩) n G) (w.drew.alloc (.cells cur 3))) := fun ty => by
      have h := Lib.run_append_grow_zeros (P := Try.prog) w 48 3 ty 3 i0 (.int .i64 0) .i64 .i64 Try.underlying48 Try.underlying3 hi0 hz0 Option.none 0 0 [] (run_firstCells_none w.drew i0.size 0 0 0) n (by omega) (by rw [hz1]; decide) (by omega) (by omega)
        (by rw [hz2]; omega) (by rw [hz2, Nat.zero_add]; exact growslice_fits (by omega) (by omega))
      rw [Nat.zero_add] at h
      rw [h, hcur, hG]
      simp
    have HO : Hid (Own 1 eInt (w.drew.alloc (.cells cur 3)) w.heap.size 3 (.slice (some ⟨w.heap.size, 0, none⟩) 0 G) ([] : List (Int))) :=
      ⟨[], ⟨by simp, .inr ⟨w.heap.size, G, cur, rfl, Nat.le_refl _, heap_alloc_new w.drew _, Nat.zero_le _, hle, hcs, by simp⟩⟩, fun i x h => by simp at h⟩
    clear hG hcur hle hcs hi0 hz0 hz1 hz2
    go_enter Try.func75, Try.ntmps75
    go_wp2_with (at_builtin; refine Lib.wpList_append_run _ rfl _ _ _ _ rfl _ _ rfl rfl _ _ (hrz.out _) ?_)
    go_ret
    exact ⟨_, rfl, HO.out, (Below.refl _ _).drew.alloc (Nat.le_refl _) _⟩

set_option maxHeartbeats 1000000 in
theorem concatInts_any (w : World) (A : Option Addr) (n c : Nat) (ls : List (List (Int))) (h : Sl 1 (eSl 1 8 eInt) w (LT w.heap.size) A n ls) (hm : n ≤ lim) (hs : lens ls * 8 ≤ lim) (hs1 : lens ls ≤ lim) :
    Calls Try.prog 42 #[.slice A n c] w fun e w' => ∃ v, e = .returned v ∧ Own 1 eInt w' w.heap.size 3 v ls.flatten ∧ Fr w w' := by
  obtain ⟨i0, hi0, _⟩ := Option.map_eq_some_iff.1 infoIntE
  have hm1 := hm
  have hs2 := hs1
  unfold lim at hm1 hs2
  (have H := Lib.hid h; clear h; have Hi0 := Lib.hid hi0; clear hi0)
  go_enter Try.func42, Try.ntmps42
  go_wp2_with fail
  go_loop [3, 11] (fun s i => ∃ k : Nat, k ≤ n ∧ i = .int .i64 k ∧ s = .int .i64 (lens (ls.take k) : Nat)) (fun _ i => n - (intOf i).toNat)
  case atStart => exact ⟨0, Nat.zero_le _, rfl, by simp [lens]⟩
  case round =>
    obtain ⟨k, hk, rfl, rfl⟩ := hrel
    by_cases hlt : k < n
    · obtain ⟨ad, rfl, hE⟩ := H.out.els (by omega)
      obtain ⟨A', n', c', l, hl, hcl, hm', hc1, hc2, hsl⟩ := hE.slC hlt
      have h1 := lens_take_succ hl
      have h2 := lens_take_le ls (k + 1)
      rw [hsl.1] at h1
      obtain ⟨a, ha⟩ : ∃ a, a = lens (ls.take k) := ⟨_, rfl⟩
      obtain ⟨b, hb⟩ : ∃ b, b = lens (ls.take (k + 1)) := ⟨_, rfl⟩
      rw [← ha] at h1 ⊢
      rw [← hb] at h1 h2
      have hab : a + n' ≤ 140737488355328 := by omega
      have hneg : ¬ ((a : Int) + (n' : Int) < 0) := by omega
      have HB : Hid (b = a + n') := h1
      have HB2 := Lib.hid hb
      clear hl hsl h1 ha hb
      go_wp2_with fail
      go_round
      case rel => exact ⟨k + 1, by omega, by go_num, by rw [← HB2.out, HB.out]; go_num⟩
      case measure => simp [intOf]; omega
    · obtain rfl : k = n := by omega
      have ht : Hid (ls.take k = ls) := List.take_of_length_le (by rw [H.out.1]; exact Nat.le_refl _)
      rw [ht.out]
      obtain ⟨T, hT⟩ : ∃ T, T = lens ls := ⟨_, rfl⟩
      rw [← hT] at hs hs1 ⊢
      (have HT := Lib.hid hT; clear hT)
      go_wp2_with fail
      (with_reducible refine (growInts_nil _ T hs hs1).mono ?_)
      rintro e w1 ⟨v1, rfl, ho1, hf1⟩
      (have Ho1 := Lib.hid ho1; clear ho1; have Hf1 := Lib.hid hf1; clear hf1)
      go_wp2_with fail
      go_loopw [6, 27] (fun v i wr => ∃ j : Nat, j ≤ k ∧ i = .int .i64 j ∧ Hid (Own 1 eInt wr w.heap.size 3 v (ls.take j).flatten) ∧ Hid (Below w.heap.size w wr)) (fun _ i _ => k - (intOf i).toNat)
      case atStart => exact ⟨0, Nat.zero_le _, rfl, Ho1, Hf1⟩
      case round =>
        obtain ⟨j, hj, rfl, HO, HF⟩ := hrel
        by_cases hlt2 : j < k
        · obtain ⟨ad, rfl, hE⟩ := H.out.els (by omega)
          obtain ⟨A', n', c', l, hl, hcl, hm', hc1, hc2, hsl⟩ := hE.slC hlt2
          have hcw : wr.cell? (ad.add j) = some (.slice A' n' c') := (HF.out.cell (p := ad.add j) (by rw [block_of_add]; exact hE.2.1)).trans hcl
          have Hlen : Hid ((ls.take j).flatten.length + n' ≤ T) := by
            have h1 := lens_take_succ hl
            have h2 := lens_take_le ls (j + 1)
            rw [hsl.1] at h1
            have := HT.out
            rw [Hid, length_flatten_lens]; omega
          have HT2 : Hid ((ls.take (j + 1)).flatten = (ls.take j).flatten ++ l) := by rw [Hid, take_snoc' hl, List.flatten_append]; simp
          have HTb : Hid (T * 8 ≤ lim ∧ T ≤ lim) := ⟨hs, hs1⟩
          cases A' with
          | none =>
            have hn0 : n' = 0 := by
              rcases Nat.eq_zero_or_pos n' with h0 | h0
              · exact h0
              · obtain ⟨ad', e, _⟩ := hsl.2 h0; cases e
            subst hn0
            have hl0 : l = [] := List.eq_nil_of_length_eq_zero hsl.1
            subst hl0
            have HO3 : Hid (Own 1 eInt wr w.heap.size 3 u6 (ls.take (j + 1)).flatten) := by rw [HT2.out, List.append_nil]; exact HO.out
            clear hl hcl hsl
            go_wp2_with (at_builtin; refine wpList_apps_nil _ rfl _ _ 48 rfl w.heap.size 3 i0 Try.underlying48 Hi0.out _ _ c' rfl HO.out rfl ?_)
            go_roundw
            case rel => exact ⟨j + 1, by omega, by go_num, HO3, HF⟩
            case measure => simp [intOf]; omega
          | some adb =>
            obtain ⟨news, hnl, hnc, hn1, hnr⟩ : ∃ news : List Value, news.length = n' * 1 ∧ (∀ j u, news[j]? = some u → w.cell? (adb.add j) = some u ∧ adb.block < w.heap.size) ∧ (∀ u ∈ news, u.oneCell' = true) ∧ ∀ i x, l[i]? = some x → eInt w (LT w.heap.size) (fun j => news[i * 1 + j]?) x := by
              rcases Nat.eq_zero_or_pos n' with h0 | h0
              · have hl0 : l = [] := List.eq_nil_of_length_eq_zero (by rw [hsl.1]; exact h0)
                exact ⟨[], by simp [h0], fun j u hu => by simp at hu, fun u hu => by simp at hu, fun i x hx => by simp [hl0] at hx⟩
              · obtain ⟨ad', e, hE'⟩ := hsl.els h0
                injection e with e
                subst e
                obtain ⟨cs, k1, k2, k3, k4⟩ := hE'.cells fInt sInt (by decide)
                exact ⟨cs, k1, fun j u hu => ⟨k2 j u hu, hE'.2.1⟩, k3, k4⟩
            have hll := hsl.1
            have hfar : Hid (∀ b, b < w.heap.size → u6.ownBlock ≠ some b) := fun b hb => HO.out.far hb
            clear hl hcl hsl
            (have Hnl := Lib.hid hnl; clear hnl; have Hnc := Lib.hid hnc; clear hnc; have Hn1 := Lib.hid hn1; clear hn1; have Hnr := Lib.hid hnr; clear hnr; have Hll := Lib.hid hll; clear hll)
            go_wp2_with (at_builtin; refine wpList_apps _ rfl _ _ 48 rfl w.heap.size 3 _ _ _ Try.underlying48 infoIntE rfl (by decide) sInt _ (ls.take j).flatten rfl HO.out adb n' c' news rfl Hnl.out ?c1 Hn1.out l Hll.out ?c3 ?c4 ?c5 ?c6 ?_)
            case c1 => intro i u hu; obtain ⟨k1, k2⟩ := Hnc.out i u hu; exact (HF.out.cell (by rw [block_of_add]; exact k2)).trans k1
            case c3 =>
              intro i x hx
              exact (sInt).more (S := LT w.heap.size) (fun b hb => ⟨Nat.lt_of_lt_of_le hb HF.out.size, hfar.out b hb⟩) ((sInt).keep (fun p hp => HF.out.cell hp) (Hnr.out i x hx))
            case c4 => have := Hlen.out; have q := HTb.out.2; unfold maxLen; unfold lim at q; omega
            case c5 => exact Nat.le_trans (Nat.mul_le_mul_right _ Hlen.out) HTb.out.1
            case c6 => exact HF.out.size
            · intro v' w3 ho3 hg3 hge3
              have HO3 : Hid (Own 1 eInt w3 w.heap.size 3 v' (ls.take (j + 1)).flatten) := by rw [HT2.out]; exact ho3
              have HF3 : Hid (Below w.heap.size w w3) := HF.out.grown hg3 HF.out.size hge3
              clear ho3 hg3 hge3
              go_wp2
              go_roundw
              case rel => exact ⟨j + 1, by omega, by go_num, HO3, HF3⟩
              case measure => simp [intOf]; omega
        · obtain rfl : j = k := by omega
          rw [ht.out] at HO
          go_wp2_with fail
          go_ret
          exact ⟨_, rfl, HO.out, HF.out⟩
theorem concatInts2 (w : World) (g : Nat) (A A' : Option Addr) (n c n' c' : Nat) (t : TypeId) (xs ys : List Int) (hg : w.heap[g]? = some (.cells #[.slice A n c, .slice A' n' c'] t (0, 0))) (h : Sl 1 eInt w (LT w.heap.size) A n xs) (h' : Sl 1 eInt w (LT w.heap.size) A' n' ys) (hn : n ≤ 60 ∧ n ≤ c ∧ c ≤ maxLen) (hn' : n' ≤ 60 ∧ n' ≤ c' ∧ c' ≤ maxLen) :
    Calls Try.prog 42 #[.slice (some ⟨g, 0, none⟩) 2 2] w fun e w' => ∃ A9 c9, e = .returned (.slice A9 (xs ++ ys).length c9) ∧ ((xs ++ ys).length ≤ c9 ∧ c9 ≤ maxLen) ∧ Sl 1 eInt w' (LT w'.heap.size) A9 (xs ++ ys).length (xs ++ ys) ∧ Fr w w' := by
  have hgl := (Array.getElem?_eq_some_iff.1 hg).1
  have hS : Sl 1 (eSl 1 8 eInt) w (LT w.heap.size) (some ⟨g, 0, none⟩) 2 [xs, ys] := by
    refine ⟨rfl, fun _ => ⟨_, rfl, hgl, fun i x hx => ?_⟩⟩
    match i, hx with
    | 0, hx =>
      obtain rfl : xs = x := by simpa using hx
      exact ⟨A, n, c, by show w.cell? (Addr.add ⟨g, 0, none⟩ _) = _; rw [zero_add_addr, cell_of_heap hg]; rfl, ⟨by unfold lim; omega, hn.2⟩, h⟩
    | 1, hx =>
      obtain rfl : ys = x := by simpa using hx
      exact ⟨A', n', c', by show w.cell? (Addr.add ⟨g, 0, none⟩ _) = _; rw [zero_add_addr, cell_of_heap hg]; rfl, ⟨by unfold lim; omega, hn'.2⟩, h'⟩
    | i + 2, hx => simp at hx
  have hl := h.1
  have hl' := h'.1
  have hlen : lens [xs, ys] = n + n' := by simp [lens, hl, hl']
  refine (concatInts_any w _ 2 2 [xs, ys] hS (by unfold lim; omega) (by rw [hlen]; unfold lim; omega) (by rw [hlen]; unfold lim; omega)).mono ?_
  rintro e w' ⟨v, rfl, ho, hf⟩
  obtain ⟨A9, c9, rfl, hc, hs⟩ := ho.slC sInt (by decide)
  have ef : [xs, ys].flatten = xs ++ ys := by simp
  rw [ef] at hc hs ⊢
  exact ⟨A9, c9, rfl, hc, hs, hf⟩
end Go.Proofs.Ytnfjghldcopaaaa
namespace Go.Proofs.Ytnfjghldcopaaaa
open Go.RowKit
attribute [local irreducible] wpList

set_option maxRecDepth 100000 in
set_option maxHeartbeats 4000000 in
theorem solveEnough_good (w : World) (K : Nat) (A : Option Addr) (n c : Nat) (cargo : List UInt8) (h : Sl 1 eByte w (LT w.heap.size) A n cargo) (hnc : n ≤ c) (hcm : c ≤ maxLen) (A2 : Option Addr) (n2 c2 : Nat) (ids : List Int) (h2 : Sl 1 eInt w (LT w.heap.size) A2 n2 ids) (hnc2 : n2 ≤ c2) (hcm2 : c2 ≤ maxLen) (hck : cutCheck n K = 0) :
    Calls Try.prog 9 #[.agg #[.int .i64 n, .int .i64 K], .slice A n c, .slice A2 n2 c2] w fun e w' => e = .returned (.bool true) ∧ Fr w w' := by
  have hl := h.1
  obtain ⟨q1, q2, q3, hall, hK⟩ := cutF_facts hck hl
  have hn : 1 ≤ n ∧ n ≤ 360 := by have := (cutCheck_ok hck).1; omega
  obtain ⟨m, hm⟩ : ∃ m, m = min n2 30 := ⟨_, rfl⟩
  have hm30 : m ≤ 30 := by omega
  have hmn : m ≤ n2 := by omega
  have hmc : m ≤ c2 := by omega
  have h3 := h2.pre (k := m) hmn
  obtain ⟨TS, hTS⟩ : ∃ TS, TS = ids.take m := ⟨_, rfl⟩
  rw [← hTS] at h3
  have hD := enough_syms hck hl TS (by rw [h3.1]; exact hm30)
  obtain ⟨b, hb⟩ : ∃ b, b = (cutF K n cargo).length := ⟨_, rfl⟩
  rw [← hb] at q1 q2 q3 hD
  obtain ⟨IS, hIS⟩ : ∃ IS, IS = TS ++ firstInts b := ⟨_, rfl⟩
  have hIl : IS.length ≤ maxLen := by rw [hIS, List.length_append, firstInts_len, h3.1]; unfold maxLen; omega
  rw [← hIS] at hD
  have hxl := length_symsOf n K cargo IS
  obtain ⟨XS, hXS⟩ : ∃ XS, XS = symsOf n K cargo IS := ⟨_, rfl⟩
  rw [← hXS] at hD hxl
  have hXm : XS.length ≤ maxLen := by unfold maxLen; omega
  have HCK := Lib.hid hck
  obtain ⟨K1, K2⟩ := hK
  obtain ⟨n1', n2'⟩ := hn
  have wn : wfI (n : Int) := wfI.mk (by omega)
  have wK : wfI (K : Int) := wfI.mk (by omega)
  have t1 : ((n : Int) != (n : Int)) = false := by simp
  (have H := Lib.hid h; clear h; have H2 := Lib.hid h2; clear h2; have H3 := Lib.hid h3; clear h3; have Hm := Lib.hid hm; clear hm; have HD := Lib.hid hD; clear hD; have HIS := Lib.hid hIS; clear hIS; have HXS := Lib.hid hXS; clear hXS; have HIl := Lib.hid hIl; clear hIl; have HXm := Lib.hid hXm; clear hXm; have Q3 := Lib.hid q3; clear q3)
  clear hl hck hTS hall hb hxl
  go_enter Try.func9, Try.ntmps9
  go_wp2_with fail
  (with_reducible refine (solved_any _).mono ?_)
  rintro e v1 ⟨rfl, hf⟩
  have HP1 : Hid (v1.heap[w.heap.size]? = some (.cells #[.int .i64 n, .int .i64 K] 47 (0, 0))) := blk_go (by (repeat' (with_reducible (first | (refine heap_new ?_; (first | (simp; done) | rfl); done) | refine heap_dn ?_ | refine heap_d ?_ | refine heap_old ?_)))) hf
  have HF1 : Hid (Fr w v1) := Fr.trans (by (repeat' (first | exact Below.refl _ _ | refine below_drewN ?_ _ | refine Below.drew ?_ | refine frA ?_ _))) hf
  have hp1 := HP1.out
  (obtain ⟨x0, x1⟩ := box2_ hp1)
  clear hf hp1
  go_wp2_with fail
  (with_reducible refine (cutCheck_any _ _ _ wn wK).mono ?_)
  rw [HCK.out]
  rintro e v2 ⟨rfl, hf⟩
  have HP2 := Lib.hid (blk_go HP1.out hf)
  have HF2 : Hid (Fr w v2) := HF1.out.trans hf
  have hp2 := HP2.out
  (obtain ⟨x0, x1⟩ := box2_ hp2)
  clear hf hp2 HP1 HF1
  go_wp2_with fail
  (with_reducible refine (cutBlocks_any _ _ _ wn wK).mono ?_)
  rw [← Q3.out]
  rintro e v3 ⟨rfl, hf⟩
  have HP3 := Lib.hid (blk_go HP2.out hf)
  have HF3 : Hid (Fr w v3) := HF2.out.trans hf
  clear hf HP2 HF2
  go_wp2_with fail
  go_loopw [7, 28] (fun s7 s28 wr => ∃ i : Nat, i ≤ b ∧ s28 = .int .i64 i ∧ Hid (Own 1 eInt wr v3.heap.size 3 s7 (firstInts i)) ∧ Hid (Fr v3 wr)) (fun _ s28 _ => b - (intOf s28).toNat)
  case atStart => exact ⟨0, Nat.zero_le _, rfl, Own.nil, Below.refl _ _⟩
  case round =>
    obtain ⟨i, hi, rfl, HO, HFR⟩ := hrel
    by_cases hlt : i < b
    · have hwk : wfI (i : Int) := wfI.mk (by omega)
      have hfl : (firstInts i).length ≤ 24 := by rw [firstInts_len]; omega
      go_wp2_with (at_builtin; refine wpList_apps _ rfl _ _ 48 rfl v3.heap.size 3 (.int .i64 0) 1 8 Try.underlying48 infoIntE rfl (by decide) sInt _ (firstInts i) rfl (HO.out.fr sInt (frAlloc _ _)) ⟨wr.heap.size, 0, none⟩ 1 1 [.int .i64 (i : Int)] rfl rfl (cell_one_new _ _ _) ?c2 [(i : Int)] rfl ?c3 ?c4 ?c5 ?c6 ?_)
      case c2 => intro u hu; simp at hu; subst hu; rfl
      case c3 =>
        intro i y hy
        obtain rfl : i = 0 := by have := (List.getElem?_eq_some_iff.1 hy).1; simp at this; omega
        have hy := (by simpa using hy)
        subst hy
        exact ⟨rfl, hwk⟩
      case c4 => unfold maxLen; omega
      case c5 => unfold lim; omega
      case c6 => have := HFR.out.size; simp; omega
      · intro v' w3 hown' hg' hge
        have HO' : Hid (Own 1 eInt w3 v3.heap.size 3 v' (firstInts (i + 1))) := by rw [firstInts_succ]; exact hown'
        have HB' : Hid (Fr v3 w3) := (frA HFR.out _).grown hg' (by have := HFR.out.size; simp; omega) hge
        clear hown' hg' hge
        go_wp2_with fail
        go_roundw
        case rel => exact ⟨i + 1, by omega, by go_num, HO', HB'⟩
        case measure => simp [intOf]; omega
    · obtain rfl : i = b := by omega
      obtain ⟨v4, rfl⟩ : ∃ v4, v4 = wr := ⟨_, rfl⟩
      obtain ⟨A7, c7, rfl, hc7, hs7⟩ := HO.out.slC sInt (by decide)
      rw [firstInts_len] at hc7 hs7 ⊢
      have HP4 := Lib.hid (blk_go HP3.out HFR.out)
      have HF4 : Hid (Fr w v4) := HF3.out.trans HFR.out
      have HS7 := Lib.hid hs7
      have HS3 := Lib.hid (H3.out.go sInt HF4.out)
      have hb7 : i ≤ 60 ∧ i ≤ c7 ∧ c7 ≤ maxLen := ⟨by omega, hc7⟩
      have hb3 : m ≤ 60 ∧ m ≤ c2 ∧ c2 ≤ maxLen := ⟨by omega, hmc, hcm2⟩
      have hp4 := HP4.out
      (obtain ⟨x0, x1⟩ := box2_ hp4)
      clear hs7 hc7 hp4 HO HP3
      go_upto_region 9 with fail
      go_cut [9, 10] (fun s9 s10 wx => ∃ A9 n9 c9, s9 = .slice A9 n9 c9 ∧ s10 = .int .i64 0 ∧ (n9 ≤ 360 ∧ n9 ≤ c9 ∧ c9 ≤ maxLen) ∧ Hid (Sl 1 eByte wx (LT wx.heap.size) A9 n9 cargo) ∧ Hid (Fr v4 wx))
      case first =>
        have HB : Hid (v4.drew.heap[w.heap.size]? = some (.cells #[.int .i64 n, .int .i64 K] 47 (0, 0))) := HP4.out
        have F1 : Fr v4 (v4.alloc (.cells #[.slice A2 m c2, .slice A7 i c7] 48)).drew := (frAlloc v4 _).drew
        have CC : Hid (Calls Try.prog 42 #[.slice (some ⟨v4.heap.size, 0, none⟩) 2 2] (v4.alloc (.cells #[.slice A2 m c2, .slice A7 i c7] 48)).drew fun e w' => ∃ A9 c9, e = .returned (.slice A9 IS.length c9) ∧ (IS.length ≤ c9 ∧ c9 ≤ maxLen) ∧ Sl 1 eInt w' (LT w'.heap.size) A9 IS.length IS ∧ Fr v4 w') := by
          rw [HIS.out]
          exact (concatInts2 _ _ _ _ _ _ _ _ _ TS (firstInts i) (heap_d (heap_new rfl)) (HS3.out.go sInt F1) (HS7.out.go sInt F1) hb3 hb7).mono fun e w' ⟨A9, c9, a, b, c, d⟩ => ⟨A9, c9, a, b, c, F1.trans d⟩
        have CS : Hid (∀ w5 A9 c9, (IS.length ≤ c9 ∧ c9 ≤ maxLen) → Sl 1 eInt w5 (LT w5.heap.size) A9 IS.length IS → Fr v4 w5 → Calls Try.prog 28 #[.agg #[.int .i64 n, .int .i64 K], .slice A n c, .slice A9 IS.length c9] w5 fun e w' => ∃ Ay cy, e = .returned (.slice Ay XS.length cy) ∧ Sl 2 eSm w' (LT w'.heap.size) Ay XS.length XS ∧ Fr w5 w') := fun w5 A9 c9 hc hs hf =>
          (symbols_any w5 _ _ wn wK _ _ _ cargo (H.out.go sByte (HF4.out.trans hf)) hnc hcm _ _ _ IS hs hc.1 hc.2).mono fun e w' ⟨v, he, ho, hf⟩ => by
            rw [← HXS.out] at ho
            obtain ⟨Ay, cy, rfl, hc, hs⟩ := ho.toNw sSm
            exact ⟨Ay, cy, he, hs.more sSm fun b hb => hb.2, hf⟩
        have hmi : min (n2 : Int) 30 = (m : Int) := by have := Hm.out; omega
        clear hb3 hb7 F1
        have hz1 : (0 : Int) ≤ (m : Int) := by omega
        have hz2 : (m : Int) ≤ (c2 : Int) := by omega
        by_cases hle : n2 ≤ 30
        · obtain rfl : m = n2 := by have := Hm.out; omega
          have hle2 : ¬ ((30 : Int) < (m : Int)) := by omega
          go_region_held3 (fun w' => w'.cell? ⟨w.heap.size, 0, none⟩ = some (.int .i64 n) ∧ w'.cell? ⟨w.heap.size, 1, none⟩ = some (.int .i64 K)) (first | exact box2_ HB.out | exact box2_ (heap_old HB.out) | go_keep)
            (first
              | (go_at_call 42; (with_reducible refine CC.out.mono ?_); rintro e w5 ⟨A12, c12, rfl, hc12, hs12, hf5⟩; have HB := Lib.hid (blk_go HP4.out hf5); have HG := Lib.hid hf5; have CS5 := Lib.hid (CS.out w5 A12 c12 hc12 hs12 hf5); clear hf5 hs12 hc12)
              | (go_at_call 28; (with_reducible refine CS5.out.mono ?_); rintro e w6 ⟨Ay, cy, rfl, hsy, hf5⟩; have HB := Lib.hid (blk_go HB.out hf5); have HG := Lib.hid (HG.out.trans hf5); have HS12 := Lib.hid hsy; clear hf5 hsy)
              | (go_at_call 34; (with_reducible refine (decode_eq _ _ _ wn wK _ _ _ XS HS12.out HXm.out cargo 0 HD.out).mono ?_); rintro e w7 ⟨A11, n11, c11, rfl, hc11, hs11, hf6⟩; have HB := Lib.hid (blk_go HB.out hf6); have HG := Lib.hid (HG.out.trans hf6); have HS11 := Lib.hid hs11; have HC11 := Lib.hid hc11; clear hf6 hs11 hc11)
              | fail)
          all_goals
            go_wp2_with fail
            go_meet
            exact ⟨_, _, _, rfl, rfl, HC11.out, HS11.out, HG.out⟩
        · obtain rfl : m = 30 := by have := Hm.out; omega
          have hle2 : (30 : Int) < (n2 : Int) := by omega
          have hle3 : (30 : Int) ≤ (c2 : Int) := by omega
          go_region_held3 (fun w' => w'.cell? ⟨w.heap.size, 0, none⟩ = some (.int .i64 n) ∧ w'.cell? ⟨w.heap.size, 1, none⟩ = some (.int .i64 K)) (first | exact box2_ HB.out | exact box2_ (heap_old HB.out) | go_keep)
            (first
              | (go_at_call 42; (with_reducible refine CC.out.mono ?_); rintro e w5 ⟨A12, c12, rfl, hc12, hs12, hf5⟩; have HB := Lib.hid (blk_go HP4.out hf5); have HG := Lib.hid hf5; have CS5 := Lib.hid (CS.out w5 A12 c12 hc12 hs12 hf5); clear hf5 hs12 hc12)
              | (go_at_call 28; (with_reducible refine CS5.out.mono ?_); rintro e w6 ⟨Ay, cy, rfl, hsy, hf5⟩; have HB := Lib.hid (blk_go HB.out hf5); have HG := Lib.hid (HG.out.trans hf5); have HS12 := Lib.hid hsy; clear hf5 hsy)
              | (go_at_call 34; (with_reducible refine (decode_eq _ _ _ wn wK _ _ _ XS HS12.out HXm.out cargo 0 HD.out).mono ?_); rintro e w7 ⟨A11, n11, c11, rfl, hc11, hs11, hf6⟩; have HB := Lib.hid (blk_go HB.out hf6); have HG := Lib.hid (HG.out.trans hf6); have HS11 := Lib.hid hs11; have HC11 := Lib.hid hc11; clear hf6 hs11 hc11)
              | fail)
          all_goals
            go_wp2_with fail
            go_meet
            exact ⟨_, _, _, rfl, rfl, HC11.out, HS11.out, HG.out⟩
      case rest =>
        obtain ⟨A10, n10, c10, rfl, rfl, ⟨hn10, hc10, hm10⟩, HS10, HF89⟩ := hcut
        obtain ⟨v9, rfl⟩ : ∃ v9, v9 = wc := ⟨_, rfl⟩
        have HF9 : Hid (Fr w v9) := HF4.out.trans HF89.out
        have hnm : n10 ≤ maxLen := by unfold maxLen; omega
        go_wp2_with fail
        (with_reducible refine (equalBytes_lit _ _ _ _ _ _ _ cargo cargo true (by simp) HS10.out (H.out.go sByte HF9.out) hnm).mono ?_)
        rintro e v10 ⟨rfl, hf⟩
        have HF10 : Hid (Fr w v10) := HF9.out.trans hf
        clear hf
        go_wp2_with fail
        go_ret
        exact ⟨rfl, HF10.out⟩

set_option maxRecDepth 100000 in
set_option maxHeartbeats 1000000 in
theorem solveEnough_bad (w : World) (B K : Int) (wB : wfI B) (wK : wfI K) (A : Option Addr) (n c : Nat) (A2 : Option Addr) (n2 c2 : Nat) (hbad : cutCheck B K ≠ 0 ∨ (n : Int) ≠ B) :
    Calls Try.prog 9 #[.agg #[.int .i64 B, .int .i64 K], .slice A n c, .slice A2 n2 c2] w fun e w' => e = .returned (.bool true) ∧ Fr w w' := by
  obtain ⟨ck, hk⟩ : ∃ ck, ck = cutCheck B K := ⟨_, rfl⟩
  rw [← hk] at hbad
  (have Hk := Lib.hid hk; clear hk)
  obtain ⟨b1, hb1⟩ : ∃ b1, b1 = (ck != 0) := ⟨_, rfl⟩
  obtain ⟨b2, hb2⟩ : ∃ b2, b2 = ((n : Int) != B) := ⟨_, rfl⟩
  have hb : b1 = true ∨ (b1 = false ∧ b2 = true) := by
    subst hb1 hb2
    simp only [bne_iff_ne, bne_eq_false_iff_eq, ne_eq]
    omega
  clear hbad
  rcases hb with h1 | ⟨h1, h2⟩
  all_goals
    rw [h1] at hb1
    try rw [h2] at hb2
    have e1 := hb1.symm
    have e2 := hb2.symm
    clear h1 hb1 hb2
    go_enter Try.func9, Try.ntmps9
    go_wp2_with fail
    (with_reducible refine (solved_any _).mono ?_)
    rintro e v1 ⟨rfl, hf⟩
    have HP1 : Hid (v1.heap[w.heap.size]? = some (.cells #[.int .i64 B, .int .i64 K] 47 (0, 0))) := blk_go (by (repeat' (with_reducible (first | (refine heap_new ?_; (first | (simp; done) | rfl); done) | refine heap_dn ?_ | refine heap_d ?_ | refine heap_old ?_)))) hf
    have HF1 : Hid (Fr w v1) := Fr.trans (by (repeat' (first | exact Below.refl _ _ | refine below_drewN ?_ _ | refine Below.drew ?_ | refine frA ?_ _))) hf
    have hp1 := HP1.out
    (obtain ⟨x0, x1⟩ := box2_ hp1)
    clear hf hp1
    go_wp2_with fail
    (with_reducible refine (cutCheck_any _ _ _ wB wK).mono ?_)
    rw [← Hk.out]
    rintro e v2 ⟨rfl, hf⟩
    have HF2 : Hid (Fr w v2) := HF1.out.trans hf
    have hp2 := blk_go HP1.out hf
    (obtain ⟨x0, x1⟩ := box2_ hp2)
    clear hf hp2
    go_wp2_with fail
    (with_reducible refine (solved_any _).mono ?_)
    rintro e v3 ⟨rfl, hf⟩
    have HF3 : Hid (Fr w v3) := HF2.out.trans hf
    clear hf
    go_wp2_with fail
    go_ret
    exact ⟨rfl, HF3.out⟩

theorem solveEnough_any (w : World) (B K : Int) (wB : wfI B) (wK : wfI K) (A : Option Addr) (n c : Nat) (cargo : List UInt8) (h : Sl 1 eByte w (LT w.heap.size) A n cargo) (_l : n * 1 ≤ lim) (hnc : n ≤ c) (hcm : c ≤ maxLen) (A2 : Option Addr) (n2 c2 : Nat) (ids : List Int) (h2 : Sl 1 eInt w (LT w.heap.size) A2 n2 ids) (_l2 : n2 * 8 ≤ lim) (hnc2 : n2 ≤ c2) (hcm2 : c2 ≤ maxLen) :
    Calls Try.prog 9 #[.agg #[.int .i64 B, .int .i64 K], .slice A n c, .slice A2 n2 c2] w fun e w' => e = .returned (.bool true) ∧ Fr w w' := by
  by_cases hb : cutCheck B K ≠ 0 ∨ (n : Int) ≠ B
  · exact solveEnough_bad w B K wB wK A n c A2 n2 c2 hb
  · obtain ⟨k, rfl, rfl, hck⟩ := plan_cases hb
    exact solveEnough_good w k A n c cargo h hnc hcm A2 n2 c2 ids h2 hnc2 hcm2 hck
end Go.Proofs.Ytnfjghldcopaaaa
namespace Go.Proofs.Ytnfjghldcopaaaa.solveEnoughLaw
open Go.ChangeShapes Go.WideShapes Go.ChangeAt Go.RowKit

set_option maxRecDepth 100000 in
theorem lifted (os : Os) (started : os.Started) (H : Type) (enc : TypeId × Value → H) :
    ReturnsInHanded {} Try.checked os 9 .any (Rows.solveEnoughSpec.pre6 enc Try.prog Try.f9 Rows.solveEnoughRow.domain false) (Rows.solveEnoughSpec.post enc Try.prog Try.f9 false true false false) := by
  refine returnsInHanded_of_change_sized (C := Try.checked) own started (by kernel_rfl) Try.func9
    (ChangeSpec.witness6 (enc := enc) (C := Try.checked) false ⟨#[], #[.agg #[.int .i64 0, .int .i64 0], .slice none 0 0, .slice none 0 0], []⟩ 8 (by kernel_rfl) (by kernel_rfl) (by kernel_rfl) (by kernel_rfl)) ?_
  intro W base args ds gs before hval0 hW hcnd hsz0 _
  have hval : ∀ (j : Nat) t v, Try.f9.params[j]? = some t → args[j]? = some v → Value.okWide Try.prog W .any base t v := hval0
  have hsz : (DataW.weightsEach Try.prog (Try.f9.params.toList ++ Rows.solveEnoughSpec.plain.varTypes Try.prog) (ds ++ gs)).all (· ≤ reachBytes) = true := hsz0
  have hW' := hW
  obtain ⟨p, q, hA0, hV, rfl, hfz, hnd⟩ := hW
  have hA : DataW.TrodAll enc Try.prog W 0 (fun _ => true) true Try.f9.params.toList args.toList ds p := hA0
  rw [Try.params9] at hA hval hsz
  obtain ⟨v0, vs0, d0, ds0, p0, q0, hargs, rfl, rfl, h0, r0⟩ := trodAll_cons hA
  obtain ⟨v1, vs1, d1, ds1, p1, q1, rfl, rfl, rfl, h1, r1⟩ := trodAll_cons r0
  obtain ⟨v2, vs2, d2, ds2, p2, q2, rfl, rfl, rfl, h2, r2⟩ := trodAll_cons r1
  obtain ⟨rfl, rfl, rfl⟩ := trodAll_nil r2
  obtain rfl : args = #[v0, v1, v2] := by cases args; simp_all
  obtain ⟨rfl, rfl⟩ := trodVars_none hV
  have k0 := h0
  have lt0 : ∀ x ∈ p0, x.block < W.heap.size := by obtain ⟨m, hm⟩ := k0; exact DataW.trod_lt m _ _ _ hm
  have s0 : ∀ n ∈ d0.weights Try.prog 47, n ≤ reachBytes := fun n hn => of_decide_eq_true (List.all_eq_true.1 hsz n (DataW.weights_mem_each (j := 0) rfl rfl n hn))
  obtain ⟨B0, K0, rfl, wB0, wK0⟩ := openPlan (hval 0 47 v0 rfl rfl) h0
  have k1 := h1
  have lt1 : ∀ x ∈ p1, x.block < W.heap.size := by obtain ⟨m, hm⟩ := k1; exact DataW.trod_lt m _ _ _ hm
  have s1 : ∀ n ∈ d1.weights Try.prog 26, n ≤ reachBytes := fun n hn => of_decide_eq_true (List.all_eq_true.1 hsz n (DataW.weights_mem_each (j := 1) rfl rfl n hn))
  obtain ⟨A1, n1, c1, rfl⟩ := okWide_slice Try.underlying26 (hval 1 26 v1 rfl rfl)
  obtain ⟨y1, hy1⟩ : ∃ y, eBlock W (LT W.heap.size) (fun j => [Value.slice A1 n1 c1][j]?) y := by obtain ⟨fuel, hf⟩ := h1; exact (openBytes _ _ _ _ _ _ hf s1).2
  obtain ⟨_, _, _, e1, ⟨l1, lc1, lm1⟩, hs1⟩ := hy1; simp at e1; obtain ⟨rfl, rfl, rfl⟩ := e1
  have k2 := h2
  have lt2 : ∀ x ∈ p2, x.block < W.heap.size := by obtain ⟨m, hm⟩ := k2; exact DataW.trod_lt m _ _ _ hm
  have s2 : ∀ n ∈ d2.weights Try.prog 48, n ≤ reachBytes := fun n hn => of_decide_eq_true (List.all_eq_true.1 hsz n (DataW.weights_mem_each (j := 2) rfl rfl n hn))
  obtain ⟨A2, n2, c2, rfl⟩ := okWide_slice Try.underlying48 (hval 2 48 v2 rfl rfl)
  obtain ⟨y2, hy2⟩ : ∃ y, (eSl 1 8 eInt) W (LT W.heap.size) (fun j => [Value.slice A2 n2 c2][j]?) y := by obtain ⟨fuel, hf⟩ := h2; exact (openInts _ _ _ _ _ _ hf s2).2
  obtain ⟨_, _, _, e2, ⟨l2, lc2, lm2⟩, hs2⟩ := hy2; simp at e2; obtain ⟨rfl, rfl, rfl⟩ := e2
  clear hA0 hval0
  refine (solveEnough_any W B0 K0 wB0 wK0 A1 n1 c1 y1 hs1 l1 lc1 lm1 A2 n2 c2 y2 hs2 l2 lc2 lm2).mono fun e W' ⟨he, bel⟩ => ?_
  subst he
  exact ⟨_, rfl, _, _, _, [], _, [], hW', trodAll_mk1 (shut_bool Try.underlying4 _), (trodAll_cons_mk (Below.trod laidOut (by kernel_rfl) (of_decide_eq_true (by kernel_rfl)) k0 bel lt0) (trodAll_cons_mk (Below.trod laidOut (by kernel_rfl) (of_decide_eq_true (by kernel_rfl)) k1 bel lt1) (trodAll_cons_mk (Below.trod laidOut (by kernel_rfl) (of_decide_eq_true (by kernel_rfl)) k2 bel lt2) trodAll_mk0))), rfl, bel.frame _, fun h => by cases h⟩

/-- The statement: the law answers true for every input. -/
theorem proved : Rows.SolveEnoughSaid :=
  OpenClaim.holds_of_wide 9 Try.f9 rfl rfl rfl rfl rfl rfl rfl ⟨rfl, rfl, rfl, rfl, rfl⟩ rfl rfl rfl rfl rfl (by kernel_rfl) Try.func9 (by kernel_rfl)
    (of_decide_eq_true (by kernel_rfl)) (by unfold Func.isWrapper; first | (rw [if_pos (by decide +kernel)]; kernel_rfl) | (rw [if_neg (by decide +kernel)]; exact ⟨rfl, rfl⟩))
    (fun os started H enc _ => lifted os started H enc)
#print axioms proved
end Go.Proofs.Ytnfjghldcopaaaa.solveEnoughLaw
