/- 'SolveOrder' answers true for every input, and leaves its arguments as they were. No condition. -/
import Derived.Test.YtnfjghldcopaaaaSyms
import Derived.Test.YtnfjghldcopaaaaClone
import Derived.Test.YtnfjghldcopaaaaConcat
import Derived.Test.YtnfjghldcopaaaaRev
import Derived.Test.YtnfjghldcopaaaaBox
import Derived.Test.YtnfjghldcopaaaaNeverP
import Derived.Test.YtnfjghldcopaaaaSolveNever
import Derived.Test.YtnfjghldcopaaaaOpen
import Derived.Test.YtnfjghldcopaaaaOpenR
set_option linter.unusedSimpArgs false
set_option linter.unusedVariables false
namespace Go.Proofs.Ytnfjghldcopaaaa
set_option maxRecDepth 100000
open Go.RowKit

set_option maxHeartbeats 400000 in
theorem cloneSyms_any (w : World) (A : Option Addr) (n c : Nat) (l : List Sm) (h : Sl 2 eSm w (LT w.heap.size) A n l) (hm : n * 32 ≤ lim) :
    Calls Try.prog 38 #[.slice A n c] w fun e w' => ∃ v, e = .returned v ∧ Own 2 eSm w' w.heap.size 53 v l ∧ Fr w w' := by
  have hm2 := hm
  unfold lim at hm2
  cases A with
  | none =>
    have hn : n = 0 := by
      rcases Nat.eq_zero_or_pos n with h0 | h0
      · exact h0
      · obtain ⟨ad, e, _⟩ := h.2 h0; cases e
    have hl : l = [] := List.eq_nil_of_length_eq_zero (by rw [h.1]; exact hn)
    subst hl
    subst hn
    have hnil := fun (W : World) => Lib.run_eql_slice_nil (P := Try.prog) W 50 _ Option.none 0 c 0 0 Try.underlying50
    clear h
    go_enter Try.func38, Try.ntmps38
    go_wp2_with fail
    go_ret
    exact ⟨_, rfl, Own.nil, Below.refl _ _⟩
  | some ad =>
    have hnil := fun (W : World) => Lib.run_eql_slice_nil (P := Try.prog) W 50 _ (some ad) n c 0 0 Try.underlying50
    simp only [Option.isNone_some] at hnil
    obtain ⟨cs, hcl, hcc, hc1, hcr⟩ : ∃ cs : List Value, cs.length = n * 2 ∧ (∀ j u, cs[j]? = some u → w.cell? (ad.add j) = some u ∧ ad.block < w.heap.size) ∧ (∀ u ∈ cs, u.oneCell' = true) ∧ ∀ i x, l[i]? = some x → eSm w (LT w.heap.size) (fun j => cs[i * 2 + j]?) x := by
      rcases Nat.eq_zero_or_pos n with h0 | h0
      · have hl : l = [] := List.eq_nil_of_length_eq_zero (by rw [h.1]; exact h0)
        exact ⟨[], by simp [h0], fun j u hu => by simp at hu, fun u hu => by simp at hu, fun i x hx => by simp [hl] at hx⟩
      · obtain ⟨ad', e, hE⟩ := h.els h0
        injection e with e
        subst e
        obtain ⟨cs, k1, k2, k3, k4⟩ := hE.cells fSm sSm (by decide)
        exact ⟨cs, k1, fun j u hu => ⟨k2 j u hu, hE.2.1⟩, k3, k4⟩
    have hll := h.1
    (have H := Lib.hid h; clear h; have Hcl := Lib.hid hcl; clear hcl; have Hcc := Lib.hid hcc; clear hcc; have Hc1 := Lib.hid hc1; clear hc1; have Hcr := Lib.hid hcr; clear hcr; have Hll := Lib.hid hll; clear hll)
    go_enter Try.func38, Try.ntmps38
    go_wp2_with (at_builtin; refine wpList_apps _ rfl _ _ 50 rfl w.heap.size 53 _ _ _ Try.underlying50 infoSym rfl (by decide) sSm _ ([] : List Sm) rfl (Own.empty (Nat.le_refl _)) ad n c cs rfl Hcl.out ?c1 Hc1.out l Hll.out ?c3 ?c4 ?c5 ?c6 ?_)
    case c1 => intro j u hu; obtain ⟨k1, k2⟩ := Hcc.out j u hu; exact ((frAlloc w _).cell (by rw [block_of_add]; exact k2)).trans k1
    case c3 =>
      intro i x hx
      refine (sSm).more (S := LT w.heap.size) (fun b hb => ?_) ((sSm).keep (fun p hp => (frAlloc w _).cell hp) (Hcr.out i x hx))
      have hb' : b < w.heap.size := hb
      refine ⟨by simp; omega, ?_⟩
      intro e
      have e2 : some w.heap.size = some b := e
      have : w.heap.size = b := by injection e2
      omega
    case c4 => unfold maxLen; simp; omega
    case c5 => unfold lim; simp; omega
    case c6 => simp
    · intro v' w1 hown hg hge
      have HO : Hid (Own 2 eSm w1 w.heap.size 53 v' l) := hown
      have HF : Hid (Fr w w1) := (frAlloc w _).grown hg (by simp) hge
      clear hown hg hge
      go_wp2_with fail
      go_ret
      exact ⟨v', rfl, HO.out, HF.out⟩
theorem growSyms_nil (w : World) (n : Nat) (hm : n * 32 ≤ lim) (h63 : n ≤ lim) :
    Calls Try.prog 74 #[.slice none 0 0, .int .i64 n] w fun e w' => ∃ v, e = .returned v ∧ Own 2 eSm w' w.heap.size 53 v ([] : List (Sm)) ∧ Fr w w' := by
  obtain ⟨i0, hi0, hi1⟩ := Option.map_eq_some_iff.1 infoSym
  simp only [Prod.mk.injEq] at hi1
  obtain ⟨hz0, hz1, hz2⟩ := hi1
  unfold lim at h63 hm
  have h1 : ¬ ((n : Int) < 0) := by omega
  by_cases h0 : n = 0
  · subst h0
    clear hi0 hz0 hz1 hz2
    go_enter Try.func74, Try.ntmps74
    go_wp2
    go_ret
    exact ⟨_, rfl, Own.nil, Below.refl _ _⟩
  · have h4 : (n : Int) > 0 := by omega
    obtain ⟨G, hG⟩ : ∃ G, G = grownCap w n 0 53 := ⟨_, rfl⟩
    obtain ⟨cur, hcur⟩ : ∃ cur, cur = Builtin.zeroCells ((.agg #[.int .i64 0, .slice none 0 0]) : Value).cells n ++ Builtin.zeroCells ((.agg #[.int .i64 0, .slice none 0 0]) : Value).cells (G - n) := ⟨_, rfl⟩
    have hge := grownCap_ge w n 0 53
    have hle := grownCap_le_maxLen w n 0 53 (by unfold maxLen; omega)
    rw [← hG] at hge hle
    have hcs : cur.size = G * 2 := by
      rw [hcur, Array.size_append, size_zeroCells, size_zeroCells, ← Nat.add_mul]
      show (n + (G - n)) * 2 = G * 2
      congr 1; omega
    have hrz : Hid (∀ ty, (Builtin.append_ #[50, 3] ty #[.slice none 0 0, .int .i64 (n : Int)]).run Try.prog w = .ok (.slice (some ⟨w.heap.size, 0, none⟩) n G) (w.drew.alloc (.cells cur 53))) := fun ty => by
      have h := Lib.run_append_grow_zeros (P := Try.prog) w 50 3 ty 53 i0 (.agg #[.int .i64 0, .slice none 0 0]) .i64 .i64 Try.underlying50 Try.underlying3 hi0 hz0 Option.none 0 0 [] (run_firstCells_none w.drew i0.size 0 0 0) n (by omega) (by rw [hz1]; decide) (by omega) (by omega)
        (by rw [hz2]; omega) (by rw [hz2, Nat.zero_add]; exact growslice_fits (by omega) (by omega))
      rw [Nat.zero_add] at h
      rw [h, hcur, hG]
      simp
    have HO : Hid (Own 2 eSm (w.drew.alloc (.cells cur 53)) w.heap.size 53 (.slice (some ⟨w.heap.size, 0, none⟩) 0 G) ([] : List (Sm))) :=
      ⟨[], ⟨by simp, .inr ⟨w.heap.size, G, cur, rfl, Nat.le_refl _, heap_alloc_new w.drew _, Nat.zero_le _, hle, hcs, by simp⟩⟩, fun i x h => by simp at h⟩
    clear hG hcur hle hcs hi0 hz0 hz1 hz2
    go_enter Try.func74, Try.ntmps74
    go_wp2_with (at_builtin; refine Lib.wpList_append_run _ rfl _ _ _ _ rfl _ _ rfl rfl _ _ (hrz.out _) ?_)
    go_ret
    exact ⟨_, rfl, HO.out, (Below.refl _ _).drew.alloc (Nat.le_refl _) _⟩

set_option maxHeartbeats 1000000 in
theorem concatSyms_any (w : World) (A : Option Addr) (n c : Nat) (ls : List (List (Sm))) (h : Sl 1 (eSl 2 32 eSm) w (LT w.heap.size) A n ls) (hm : n ≤ lim) (hs : lens ls * 32 ≤ lim) (hs1 : lens ls ≤ lim) :
    Calls Try.prog 40 #[.slice A n c] w fun e w' => ∃ v, e = .returned v ∧ Own 2 eSm w' w.heap.size 53 v ls.flatten ∧ Fr w w' := by
  obtain ⟨i0, hi0, _⟩ := Option.map_eq_some_iff.1 infoSym
  have hm1 := hm
  have hs2 := hs1
  unfold lim at hm1 hs2
  (have H := Lib.hid h; clear h; have Hi0 := Lib.hid hi0; clear hi0)
  go_enter Try.func40, Try.ntmps40
  go_wp2_with fail
  go_loop [3, 11] (fun s i => ∃ k : Nat, k ≤ n ∧ i = .int .i64 k ∧ s = .int .i64 (lens (ls.take k) : Nat)) (fun _ i => n - (intOf i).toNat)
  case atStart => exact ⟨0, Nat.zero_le _, rfl, by simp [lens]⟩
  case round =>
    obtain ⟨k, hk, rfl, rfl⟩ := hrel
    by_cases hlt : k < n
    · obtain ⟨ad, rfl, hE⟩ := H.out.els (by omega)
      obtain ⟨A', n', c', l, hl, hcl, hm', hc1, hc2, hsl⟩ := hE.slC hlt
      have h1 := lens_take_succ hl
      have h2 := lens_take_le ls (k + 1)
      rw [hsl.1] at h1
      obtain ⟨a, ha⟩ : ∃ a, a = lens (ls.take k) := ⟨_, rfl⟩
      obtain ⟨b, hb⟩ : ∃ b, b = lens (ls.take (k + 1)) := ⟨_, rfl⟩
      rw [← ha] at h1 ⊢
      rw [← hb] at h1 h2
      have hab : a + n' ≤ 140737488355328 := by omega
      have hneg : ¬ ((a : Int) + (n' : Int) < 0) := by omega
      have HB : Hid (b = a + n') := h1
      have HB2 := Lib.hid hb
      clear hl hsl h1 ha hb
      go_wp2_with fail
      go_round
      case rel => exact ⟨k + 1, by omega, by go_num, by rw [← HB2.out, HB.out]; go_num⟩
      case measure => simp [intOf]; omega
    · obtain rfl : k = n := by omega
      have ht : Hid (ls.take k = ls) := List.take_of_length_le (by rw [H.out.1]; exact Nat.le_refl _)
      rw [ht.out]
      obtain ⟨T, hT⟩ : ∃ T, T = lens ls := ⟨_, rfl⟩
      rw [← hT] at hs hs1 ⊢
      (have HT := Lib.hid hT; clear hT)
      go_wp2_with fail
      (with_reducible refine (growSyms_nil _ T hs hs1).mono ?_)
      rintro e w1 ⟨v1, rfl, ho1, hf1⟩
      (have Ho1 := Lib.hid ho1; clear ho1; have Hf1 := Lib.hid hf1; clear hf1)
      go_wp2_with fail
      go_loopw [6, 27] (fun v i wr => ∃ j : Nat, j ≤ k ∧ i = .int .i64 j ∧ Hid (Own 2 eSm wr w.heap.size 53 v (ls.take j).flatten) ∧ Hid (Below w.heap.size w wr)) (fun _ i _ => k - (intOf i).toNat)
      case atStart => exact ⟨0, Nat.zero_le _, rfl, Ho1, Hf1⟩
      case round =>
        obtain ⟨j, hj, rfl, HO, HF⟩ := hrel
        by_cases hlt2 : j < k
        · obtain ⟨ad, rfl, hE⟩ := H.out.els (by omega)
          obtain ⟨A', n', c', l, hl, hcl, hm', hc1, hc2, hsl⟩ := hE.slC hlt2
          have hcw : wr.cell? (ad.add j) = some (.slice A' n' c') := (HF.out.cell (p := ad.add j) (by rw [block_of_add]; exact hE.2.1)).trans hcl
          have Hlen : Hid ((ls.take j).flatten.length + n' ≤ T) := by
            have h1 := lens_take_succ hl
            have h2 := lens_take_le ls (j + 1)
            rw [hsl.1] at h1
            have := HT.out
            rw [Hid, length_flatten_lens]; omega
          have HT2 : Hid ((ls.take (j + 1)).flatten = (ls.take j).flatten ++ l) := by rw [Hid, take_snoc' hl, List.flatten_append]; simp
          have HTb : Hid (T * 32 ≤ lim ∧ T ≤ lim) := ⟨hs, hs1⟩
          cases A' with
          | none =>
            have hn0 : n' = 0 := by
              rcases Nat.eq_zero_or_pos n' with h0 | h0
              · exact h0
              · obtain ⟨ad', e, _⟩ := hsl.2 h0; cases e
            subst hn0
            have hl0 : l = [] := List.eq_nil_of_length_eq_zero hsl.1
            subst hl0
            have HO3 : Hid (Own 2 eSm wr w.heap.size 53 u6 (ls.take (j + 1)).flatten) := by rw [HT2.out, List.append_nil]; exact HO.out
            clear hl hcl hsl
            go_wp2_with (at_builtin; refine wpList_apps_nil _ rfl _ _ 50 rfl w.heap.size 53 i0 Try.underlying50 Hi0.out _ _ c' rfl HO.out rfl ?_)
            go_roundw
            case rel => exact ⟨j + 1, by omega, by go_num, HO3, HF⟩
            case measure => simp [intOf]; omega
          | some adb =>
            obtain ⟨news, hnl, hnc, hn1, hnr⟩ : ∃ news : List Value, news.length = n' * 2 ∧ (∀ j u, news[j]? = some u → w.cell? (adb.add j) = some u ∧ adb.block < w.heap.size) ∧ (∀ u ∈ news, u.oneCell' = true) ∧ ∀ i x, l[i]? = some x → eSm w (LT w.heap.size) (fun j => news[i * 2 + j]?) x := by
              rcases Nat.eq_zero_or_pos n' with h0 | h0
              · have hl0 : l = [] := List.eq_nil_of_length_eq_zero (by rw [hsl.1]; exact h0)
                exact ⟨[], by simp [h0], fun j u hu => by simp at hu, fun u hu => by simp at hu, fun i x hx => by simp [hl0] at hx⟩
              · obtain ⟨ad', e, hE'⟩ := hsl.els h0
                injection e with e
                subst e
                obtain ⟨cs, k1, k2, k3, k4⟩ := hE'.cells fSm sSm (by decide)
                exact ⟨cs, k1, fun j u hu => ⟨k2 j u hu, hE'.2.1⟩, k3, k4⟩
            have hll := hsl.1
            have hfar : Hid (∀ b, b < w.heap.size → u6.ownBlock ≠ some b) := fun b hb => HO.out.far hb
            clear hl hcl hsl
            (have Hnl := Lib.hid hnl; clear hnl; have Hnc := Lib.hid hnc; clear hnc; have Hn1 := Lib.hid hn1; clear hn1; have Hnr := Lib.hid hnr; clear hnr; have Hll := Lib.hid hll; clear hll)
            go_wp2_with (at_builtin; refine wpList_apps _ rfl _ _ 50 rfl w.heap.size 53 _ _ _ Try.underlying50 infoSym rfl (by decide) sSm _ (ls.take j).flatten rfl HO.out adb n' c' news rfl Hnl.out ?c1 Hn1.out l Hll.out ?c3 ?c4 ?c5 ?c6 ?_)
            case c1 => intro i u hu; obtain ⟨k1, k2⟩ := Hnc.out i u hu; exact (HF.out.cell (by rw [block_of_add]; exact k2)).trans k1
            case c3 =>
              intro i x hx
              exact (sSm).more (S := LT w.heap.size) (fun b hb => ⟨Nat.lt_of_lt_of_le hb HF.out.size, hfar.out b hb⟩) ((sSm).keep (fun p hp => HF.out.cell hp) (Hnr.out i x hx))
            case c4 => have := Hlen.out; have q := HTb.out.2; unfold maxLen; unfold lim at q; omega
            case c5 => exact Nat.le_trans (Nat.mul_le_mul_right _ Hlen.out) HTb.out.1
            case c6 => exact HF.out.size
            · intro v' w3 ho3 hg3 hge3
              have HO3 : Hid (Own 2 eSm w3 w.heap.size 53 v' (ls.take (j + 1)).flatten) := by rw [HT2.out]; exact ho3
              have HF3 : Hid (Below w.heap.size w w3) := HF.out.grown hg3 HF.out.size hge3
              clear ho3 hg3 hge3
              go_wp2
              go_roundw
              case rel => exact ⟨j + 1, by omega, by go_num, HO3, HF3⟩
              case measure => simp [intOf]; omega
        · obtain rfl : j = k := by omega
          rw [ht.out] at HO
          go_wp2_with fail
          go_ret
          exact ⟨_, rfl, HO.out, HF.out⟩
end Go.Proofs.Ytnfjghldcopaaaa
namespace Go.Proofs.Ytnfjghldcopaaaa
open Go.RowKit

theorem concatSyms2 (w : World) (g : Nat) (A A' : Option Addr) (n c n' c' : Nat) (t : TypeId) (xs ys : List Sm) (hg : w.heap[g]? = some (.cells #[.slice A n c, .slice A' n' c'] t (0, 0))) (h : Sl 2 eSm w (LT w.heap.size) A n xs) (h' : Sl 2 eSm w (LT w.heap.size) A' n' ys) (hn : n ≤ 60 ∧ n ≤ c ∧ c ≤ maxLen) (hn' : n' ≤ 60 ∧ n' ≤ c' ∧ c' ≤ maxLen) :
    Calls Try.prog 40 #[.slice (some ⟨g, 0, none⟩) 2 2] w fun e w' => ∃ A9 c9, e = .returned (.slice A9 (xs ++ ys).length c9) ∧ ((xs ++ ys).length ≤ c9 ∧ c9 ≤ maxLen) ∧ Sl 2 eSm w' (LT w'.heap.size) A9 (xs ++ ys).length (xs ++ ys) ∧ Fr w w' := by
  have hgl := (Array.getElem?_eq_some_iff.1 hg).1
  have hS : Sl 1 (eSl 2 32 eSm) w (LT w.heap.size) (some ⟨g, 0, none⟩) 2 [xs, ys] := by
    refine ⟨rfl, fun _ => ⟨_, rfl, hgl, fun i x hx => ?_⟩⟩
    match i, hx with
    | 0, hx =>
      obtain rfl : xs = x := by simpa using hx
      exact ⟨A, n, c, by show w.cell? (Addr.add ⟨g, 0, none⟩ _) = _; rw [zero_add_addr, cell_of_heap hg]; rfl, ⟨by unfold lim; omega, hn.2⟩, h⟩
    | 1, hx =>
      obtain rfl : ys = x := by simpa using hx
      exact ⟨A', n', c', by show w.cell? (Addr.add ⟨g, 0, none⟩ _) = _; rw [zero_add_addr, cell_of_heap hg]; rfl, ⟨by unfold lim; omega, hn'.2⟩, h'⟩
    | i + 2, hx => simp at hx
  have hl := h.1
  have hl' := h'.1
  have hlen : lens [xs, ys] = n + n' := by simp [lens, hl, hl']
  refine (concatSyms_any w _ 2 2 [xs, ys] hS (by unfold lim; omega) (by rw [hlen]; unfold lim; omega) (by rw [hlen]; unfold lim; omega)).mono ?_
  rintro e w' ⟨v, rfl, ho, hf⟩
  obtain ⟨A9, c9, rfl, hc, hs⟩ := ho.slC sSm (by decide)
  have ef : [xs, ys].flatten = xs ++ ys := by simp
  rw [ef] at hc hs ⊢
  exact ⟨A9, c9, rfl, hc, hs, hf⟩
end Go.Proofs.Ytnfjghldcopaaaa
namespace Go.Proofs.Ytnfjghldcopaaaa
open Go.RowKit

/-- Pairs of cells, laid out. -/
def prs (ps : List (Value × Value)) : List Value := ps.flatMap fun p => [p.1, p.2]
theorem prs_len (ps : List (Value × Value)) : (prs ps).length = ps.length * 2 := by
  induction ps with
  | nil => rfl
  | cons p ps ih => unfold prs at ih ⊢; simp only [List.flatMap_cons, List.length_append, List.length_cons, List.length_nil, ih]; omega
theorem prs_get {ps : List (Value × Value)} {k : Nat} {p : Value × Value} (h : ps[k]? = some p) : (prs ps)[k * 2]? = some p.1 ∧ (prs ps)[k * 2 + 1]? = some p.2 := by
  induction ps generalizing k with
  | nil => simp at h
  | cons q ps ih =>
    cases k with
    | zero => simp at h; subst h; exact ⟨rfl, rfl⟩
    | succ k =>
      have := ih (k := k) (by simpa using h)
      have e : prs (q :: ps) = q.1 :: q.2 :: prs ps := rfl
      rw [e, show (k + 1) * 2 = k * 2 + 1 + 1 from by omega]
      exact this
theorem prs_set (ps : List (Value × Value)) (k : Nat) (p : Value × Value) : prs (ps.set k p) = ((prs ps).set (k * 2) p.1).set (k * 2 + 1) p.2 := by
  induction ps generalizing k with
  | nil => rfl
  | cons q ps ih =>
    have e : prs (q :: ps) = q.1 :: q.2 :: prs ps := rfl
    cases k with
    | zero => rfl
    | succ k =>
      have e2 : prs ((q :: ps).set (k + 1) p) = q.1 :: q.2 :: prs (ps.set k p) := rfl
      rw [e2, e, ih, show (k + 1) * 2 = k * 2 + 1 + 1 from by omega]
      rfl
theorem prs_of {cs : List Value} {n : Nat} (h : cs.length = n * 2) : ∃ ps : List (Value × Value), ps.length = n ∧ prs ps = cs := by
  induction n generalizing cs with
  | zero => exact ⟨[], rfl, (List.eq_nil_of_length_eq_zero (by omega)).symm⟩
  | succ n ih =>
    match cs, h with
    | a :: b :: cs, h =>
      obtain ⟨ps, h1, h2⟩ := ih (cs := cs) (by simp only [List.length_cons] at h; omega)
      exact ⟨(a, b) :: ps, by simp [h1], by rw [← h2]; rfl⟩
    | [a], h => simp only [List.length_cons, List.length_nil] at h; omega
    | [], h => simp only [List.length_nil] at h; omega
theorem cells_set2 {w : World} {g i : Nat} {t : TypeId} {ps : List (Value × Value)} {rest : List Value} {p : Value × Value} (h : w.heap[g]? = some (.cells (prs ps ++ rest).toArray t (0, 0))) (hi : i < ps.length) :
    ((w.setCell ⟨g, i * 2, none⟩ p.1).setCell ⟨g, i * 2 + 1, none⟩ p.2).heap[g]? = some (.cells (prs (ps.set i p) ++ rest).toArray t (0, 0)) := by
  rw [prs_set]
  exact cells_set (cells_set h (by rw [prs_len]; omega)) (by rw [List.length_set, prs_len]; omega)

set_option maxRecDepth 100000 in
set_option maxHeartbeats 1000000 in
theorem reverse_sym (w : World) (g n cap : Nat) (t : TypeId) (ps : List (Value × Value)) (rest : List Value) (hg : w.heap[g]? = some (.cells (prs ps ++ rest).toArray t (0, 0))) (hn : ps.length = n) (hm : n ≤ lim) (hsl : ∀ p ∈ ps, ∃ i A m c, p = (.int .i64 i, .slice A m c)) :
    Calls Try.prog 39 #[.slice (some ⟨g, 0, none⟩) n cap] w fun e w' => e = .returned (.tuple #[]) ∧ w'.heap[g]? = some (.cells (prs ps.reverse ++ rest).toArray t (0, 0)) ∧ w.grownBy w' (some g) := by
  unfold lim at hm
  go_enter Try.func39, Try.ntmps39
  go_wp2_with fail
  go_loopw [2, 3] (fun i j wr => ∃ (k : Nat) (ds : List (Value × Value)), 2 * k ≤ n + 1 ∧ i = .int .i64 k ∧ j = .int .i64 ((n : Int) - 1 - k) ∧ Hid (TurnTo ps ds n k) ∧ Hid (wr.heap[g]? = some (.cells (prs ds ++ rest).toArray t (0, 0))) ∧ Hid (w.grownBy wr (some g))) (fun i j _ => n - (intOf i).toNat)
  case atStart => exact ⟨0, ps, by omega, rfl, by simp, TurnTo.zero hn, hg, ⟨rfl, rfl, rfl, Nat.le_refl _, fun _ _ _ => rfl⟩⟩
  case round =>
    obtain ⟨k, ds, hk, rfl, rfl, HT, HG, HW⟩ := hrel
    by_cases hlt : 2 * k + 1 < n
    · obtain ⟨jn, hjn⟩ : ∃ jn : Nat, jn = n - 1 - k := ⟨_, rfl⟩
      have hji : (n : Int) - 1 - k = jn := by omega
      rw [hji]
      obtain ⟨x, hx⟩ : ∃ x, ds[k]? = some x := ⟨_, List.getElem?_eq_getElem (by rw [HT.out.1]; omega)⟩
      obtain ⟨y, hy⟩ : ∃ y, ds[jn]? = some y := ⟨_, List.getElem?_eq_getElem (by rw [HT.out.1]; omega)⟩
      have hx' := HT.out.2 k (by omega)
      have hy' := HT.out.2 jn (by omega)
      rw [hx, if_neg (by omega)] at hx'
      rw [hy, if_neg (by omega)] at hy'
      obtain ⟨i1, A1, m1, d1, rfl⟩ := hsl x (List.mem_of_getElem? hx'.symm)
      obtain ⟨i2, A2, m2, d2, rfl⟩ := hsl y (List.mem_of_getElem? hy'.symm)
      clear hx' hy'
      obtain ⟨gx, gx1⟩ := prs_get hx
      obtain ⟨gy, gy1⟩ := prs_get hy
      have hcx := cells_at HG.out gx
      have hcx1 := cells_at HG.out gx1
      have hcy := cells_at HG.out gy
      have hcy1 := cells_at HG.out gy1
      have hfx : wr.frozen? ⟨g, k * 2, none⟩ = false := blk_free HG.out
      have hfx1 : wr.frozen? ⟨g, k * 2 + 1, none⟩ = false := blk_free HG.out
      have hfy : wr.frozen? ⟨g, jn * 2, none⟩ = false := blk_free HG.out
      have hfy1 : wr.frozen? ⟨g, jn * 2 + 1, none⟩ = false := blk_free HG.out
      have R : Hid (TurnTo ps ((ds.set k (.int .i64 i2, .slice A2 m2 d2)).set jn (.int .i64 i1, .slice A1 m1 d1)) n (k + 1)) := by rw [Hid, hjn]; exact HT.out.step hlt hx (by rw [← hjn]; exact hy)
      have hklt : k < n := by omega
      have hjlt : jn < n := by omega
      have hne : k ≠ jn := by omega
      have hne2 : jn ≠ k := by omega
      have hkj : (k : Int) < (jn : Int) := by omega
      have R3 : Hid (((((wr.setCell ⟨g, k * 2, none⟩ (.int .i64 i2)).setCell ⟨g, k * 2 + 1, none⟩ (.slice A2 m2 d2)).setCell ⟨g, jn * 2, none⟩ (.int .i64 i1)).setCell ⟨g, jn * 2 + 1, none⟩ (.slice A1 m1 d1)).heap[g]? = some (.cells (prs ((ds.set k (.int .i64 i2, .slice A2 m2 d2)).set jn (.int .i64 i1, .slice A1 m1 d1)) ++ rest).toArray t (0, 0))) :=
        cells_set2 (p := (_, _)) (cells_set2 (p := (_, _)) HG.out (by rw [HT.out.1]; exact hklt)) (by rw [List.length_set, HT.out.1]; exact hjlt)
      have R4 : Hid (w.grownBy ((((wr.setCell ⟨g, k * 2, none⟩ (.int .i64 i2)).setCell ⟨g, k * 2 + 1, none⟩ (.slice A2 m2 d2)).setCell ⟨g, jn * 2, none⟩ (.int .i64 i1)).setCell ⟨g, jn * 2 + 1, none⟩ (.slice A1 m1 d1)) (some g)) := grown_set (grown_set (grown_set (grown_set HW.out)))
      clear hx hy gx gx1 gy gy1
      (have Hjn := Lib.hid hjn; clear hjn; have Hji := Lib.hid hji; clear hji)
      go_wp2_with fail
      go_region_with (fail)
      all_goals (try go_wp2_with fail)
      all_goals (
        refine ⟨⟨k + 1, _, by omega, by simp, congrArg _ (by have := Hjn.out; omega), R.out, R3.out, ?_⟩, ?_⟩
        · have q := R4.out
          exact ⟨q.os, q.tape, q.output, q.size, q.block⟩
        · simp only [intOf]; omega)
    · have R : Hid (ds = ps.reverse) := HT.out.done hn (by omega)
      go_wp2_with fail
      go_end0
      exact ⟨rfl, by rw [← R.out]; exact HG.out, HW.out⟩

/-- Symbols of the call's own, turned. -/
theorem reverseSyms_own (w : World) (base : Nat) (v : Value) (xs : List Sm) (ho : Own 2 eSm w base 53 v xs) (hn : 0 < xs.length) (hm : xs.length ≤ lim) :
    Calls Try.prog 39 #[v] w fun e w' => e = .returned (.tuple #[]) ∧ Own 2 eSm w' base 53 v xs.reverse ∧ w.grownBy w' v.ownBlock ∧ (∀ b, v.ownBlock = some b → base ≤ b) := by
  obtain ⟨g, cap, cs, rest, rfl, hbg, hg, hnc, hcm, hl, hall, h1, hr⟩ := own_row fSm (by decide) ho (by omega)
  obtain ⟨ps, hpl, rfl⟩ := prs_of hl
  have hsl : ∀ p ∈ ps, ∃ i A m c, p = (.int .i64 i, .slice A m c) := by
    intro p hp
    obtain ⟨i, hi, he⟩ := List.getElem_of_mem hp
    have hp' : ps[i]? = some p := by rw [List.getElem?_eq_getElem hi, he]
    obtain ⟨g0, g1⟩ := prs_get hp'
    have hx : xs[i]? = some xs[i] := List.getElem?_eq_getElem (by omega)
    obtain ⟨A, n, c, ⟨f0, f1⟩, _⟩ := eSm_iff.1 (hr i _ hx)
    have f0' : (prs ps)[i * 2]? = some _ := f0
    rw [g0] at f0'
    have f1' : (prs ps)[i * 2 + 1]? = some _ := f1
    rw [g1] at f1'
    injection f0' with f0'
    injection f1' with f1'
    exact ⟨_, A, n, c, by rw [← f0', ← f1']⟩
  refine (reverse_sym w g xs.length cap _ ps rest hg hpl hm hsl).mono ?_
  rintro e w' ⟨rfl, hg', hG⟩
  refine ⟨rfl, ?_, hG, fun b hb => by injection hb with hb; subst hb; exact hbg⟩
  have hrl : xs.reverse.length = xs.length := List.length_reverse
  have hpl' : (prs ps.reverse).length = xs.reverse.length * 2 := by rw [prs_len, List.length_reverse, List.length_reverse, hpl]
  have := row_own (ys := xs.reverse) (w := w) (w' := w') (cap := cap) sSm hbg hg' hG (by omega) hcm hpl' (by rw [hpl']; rw [hl] at hall; omega) fun i x hx => by
    have hi := (List.getElem?_eq_some_iff.1 hx).1
    rw [List.length_reverse] at hi
    rw [List.getElem?_reverse hi] at hx
    refine sSm.mono (fun j u hj hu => ?_) (hr _ x hx)
    obtain ⟨p, hp⟩ : ∃ p, ps[xs.length - 1 - i]? = some p := ⟨_, List.getElem?_eq_getElem (by omega)⟩
    have hq : ps.reverse[i]? = some p := by rw [List.getElem?_reverse (by omega), hpl, hp]
    obtain ⟨a0, a1⟩ := prs_get hp
    obtain ⟨b0, b1⟩ := prs_get hq
    match j, hj, hu with
    | 0, _, hu => exact b0.trans (a0.symm.trans hu)
    | 1, _, hu => exact b1.trans (a1.symm.trans hu)
  rw [hrl] at this
  exact this
theorem reverse_none (w : World) (A : Option Addr) (c : Nat) :
    Calls Try.prog 39 #[.slice A 0 c] w fun e w' => e = .returned (.tuple #[]) ∧ Fr w w' := by
  go_enter Try.func39, Try.ntmps39
  go_wp2_with fail
  go_loopw [2, 3] (fun i j wr => i = .int .i64 0 ∧ j = .int .i64 (-1) ∧ Hid (Fr w wr)) (fun _ _ _ => 0)
  case atStart => exact ⟨rfl, rfl, Below.refl _ _⟩
  case round =>
    obtain ⟨rfl, rfl, HF⟩ := hrel
    go_wp2_with fail
    go_end0
    exact ⟨rfl, HF.out⟩
theorem reverseSyms_any (w w0 : World) (v : Value) (xs : List Sm) (ho : Own 2 eSm w w0.heap.size 53 v xs) (hm : xs.length ≤ lim) (hf : Fr w0 w) :
    Calls Try.prog 39 #[v] w fun e w' => e = .returned (.tuple #[]) ∧ Own 2 eSm w' w0.heap.size 53 v xs.reverse ∧ Fr w0 w' := by
  rcases Nat.eq_zero_or_pos xs.length with h0 | h0
  · obtain ⟨A, c, rfl, _⟩ := ho.slC sSm (by decide)
    obtain rfl : xs = [] := List.eq_nil_of_length_eq_zero h0
    exact (reverse_none w A c).mono fun e w' ⟨he, hw⟩ => ⟨he, ho.fr sSm hw, hf.trans hw⟩
  · exact (reverseSyms_own w _ v xs ho h0 hm).mono fun e w' ⟨he, h1, h2, h3⟩ => ⟨he, h1, hf.grown h2 hf.size h3⟩
end Go.Proofs.Ytnfjghldcopaaaa
namespace Go.Proofs.Ytnfjghldcopaaaa

theorem order_turned {B K : Nat} {c : List UInt8} {xs : List Sm} (h : SymsOk B K c xs) : decodeF B K xs.reverse = decodeF B K xs :=
  (SymsOk.same h ⟨h.cut, h.len, by rw [List.length_reverse]; exact h.many, fun x hx => h.all x (List.mem_reverse.1 hx)⟩ fun x => List.mem_reverse.symm).symm
theorem order_twice {B K : Nat} {c : List UInt8} {xs : List Sm} (h : SymsOk B K c xs) (h2 : xs.length ≤ 30) : decodeF B K (xs ++ xs) = decodeF B K xs :=
  (SymsOk.same h ⟨h.cut, h.len, by rw [List.length_append]; omega, fun x hx => (List.mem_append.1 hx).elim (h.all x) (h.all x)⟩ fun x => by simp).symm
theorem order_more {B K : Nat} {c : List UInt8} {xs ys : List Sm} (h : SymsOk B K c xs) (h2 : SymsOk B K c ys) (hl : xs.length + ys.length ≤ 60) (e : (decodeF B K xs).2 = 0) : decodeF B K (xs ++ ys) = (c, 0) :=
  SymsOk.more h ⟨h.cut, h.len, by rw [List.length_append]; omega, fun x hx => (List.mem_append.1 hx).elim (h.all x) (h2.all x)⟩ (fun x hx => List.mem_append_left _ hx) e
end Go.Proofs.Ytnfjghldcopaaaa
namespace Go.Proofs.Ytnfjghldcopaaaa
open Go.RowKit
attribute [local irreducible] wpList

set_option maxRecDepth 100000 in
set_option maxHeartbeats 4000000 in
theorem solveOrder_good (w : World) (K : Nat) (A : Option Addr) (n c : Nat) (cargo : List UInt8) (h : Sl 1 eByte w (LT w.heap.size) A n cargo) (hnc : n ≤ c) (hcm : c ≤ maxLen) (A2 : Option Addr) (n2 c2 : Nat) (ids : List Int) (h2 : Sl 1 eInt w (LT w.heap.size) A2 n2 ids) (hnc2 : n2 ≤ c2) (hcm2 : c2 ≤ maxLen) (A3 : Option Addr) (n3 c3 : Nat) (more : List Int) (h3 : Sl 1 eInt w (LT w.heap.size) A3 n3 more) (hnc3 : n3 ≤ c3) (hcm3 : c3 ≤ maxLen) (hck : cutCheck n K = 0) (hfew : n2 + n3 ≤ 30) :
    Calls Try.prog 8 #[.agg #[.int .i64 n, .int .i64 K], .slice A n c, .slice A2 n2 c2, .slice A3 n3 c3] w fun e w' => e = .returned (.bool true) ∧ Fr w w' := by
  have hl := h.1
  obtain ⟨q1, q2, q3, hall, hK⟩ := cutF_facts hck hl
  have hn : 1 ≤ n ∧ n ≤ 360 := by have := (cutCheck_ok hck).1; omega
  have hok := symsOk_of hck hl ids
  have hok2 := symsOk_of hck hl more
  have hxl := symsOf_len hck hl ids
  have hyl := symsOf_len hck hl more
  rw [h2.1] at hxl
  rw [h3.1] at hyl
  obtain ⟨XS, hXS⟩ : ∃ XS, XS = symsOf n K cargo ids := ⟨_, rfl⟩
  obtain ⟨YS, hYS⟩ : ∃ YS, YS = symsOf n K cargo more := ⟨_, rfl⟩
  rw [← hXS] at hok hxl
  rw [← hYS] at hok2 hyl
  have hx30 : XS.length ≤ 30 := by omega
  have hxy : XS.length + YS.length ≤ 60 := by omega
  have hy30 : YS.length ≤ 30 := by omega
  have hXr : XS.reverse.length = XS.length := List.length_reverse
  have hX2 : (XS ++ XS).length ≤ 60 := by rw [List.length_append]; omega
  have hXY : (XS ++ YS).length ≤ 60 := by rw [List.length_append]; omega
  obtain ⟨out, er, hD⟩ : ∃ out er, decodeF n K XS = (out, er) := ⟨_, _, rfl⟩
  obtain ⟨out4, er4, hD4⟩ : ∃ out4 er4, decodeF n K (XS ++ YS) = (out4, er4) := ⟨_, _, rfl⟩
  have hDC : Hid (er = 8 ∨ (er = 0 ∧ out4 = cargo ∧ er4 = 0)) := by
    rcases hok.decode with e | e
    · rw [e] at hD; injection hD with e1 e2; exact .inl e2.symm
    · have e0 : (decodeF n K XS).2 = 0 := by rw [e]
      have e4 := order_more hok hok2 hxy e0
      rw [e] at hD; injection hD with e1 e2
      rw [e4] at hD4; injection hD4 with e5 e6
      exact .inr ⟨e2.symm, e5.symm, e6.symm⟩
  have hD2 := (order_turned hok).trans hD
  have hD3 := (order_twice hok hx30).trans hD
  have HXS := Lib.hid hXS
  have HYS := Lib.hid hYS
  have HCK := Lib.hid hck
  obtain ⟨K1, K2⟩ := hK
  obtain ⟨n1', n2'⟩ := hn
  have wn : wfI (n : Int) := wfI.mk (by omega)
  have wK : wfI (K : Int) := wfI.mk (by omega)
  have t1 : ((n : Int) != (n : Int)) = false := by simp
  have t2 : (er != er) = false := by simp
  have t3 : decide ((n2 : Int) + (n3 : Int) > 30) = false := by simp; omega
  have hn2s : n2 ≤ 30 := by omega
  have hn3s : n3 ≤ 30 := by omega
  (have HD := Lib.hid hD; clear hD; have HD2 := Lib.hid hD2; clear hD2; have HD3 := Lib.hid hD3; clear hD3; have HD4 := Lib.hid hD4; clear hD4)
  (have H := Lib.hid h; clear h; have H2 := Lib.hid h2; clear h2; have H3 := Lib.hid h3; clear h3)
  clear hl hck hXS hYS hall q3 hok hok2 q1 q2 hxl hyl
  go_enter Try.func8, Try.ntmps8
  go_wp2_with fail
  (with_reducible refine (solved_any _).mono ?_)
  rintro e v1 ⟨rfl, hf⟩
  have HP1 : Hid (v1.heap[w.heap.size]? = some (.cells #[.int .i64 n, .int .i64 K] 47 (0, 0))) := blk_go (by (repeat' (with_reducible (first | (refine heap_new ?_; (first | (simp; done) | rfl); done) | refine heap_dn ?_ | refine heap_d ?_ | refine heap_old ?_)))) hf
  have HF1 : Hid (Fr w v1) := Fr.trans (by (repeat' (first | exact Below.refl _ _ | refine below_drewN ?_ _ | refine Below.drew ?_ | refine frA ?_ _))) hf
  have hp1 := HP1.out
  (obtain ⟨x0, x1⟩ := box2_ hp1)
  clear hf hp1
  go_wp2_with fail
  (with_reducible refine (cutCheck_any _ _ _ wn wK).mono ?_)
  rw [HCK.out]
  rintro e v2 ⟨rfl, hf⟩
  have HP2 := Lib.hid (blk_go HP1.out hf)
  have HF2 : Hid (Fr w v2) := HF1.out.trans hf
  have hp2 := HP2.out
  (obtain ⟨x0, x1⟩ := box2_ hp2)
  clear hf hp2 HP1 HF1
  go_wp2_with fail
  (with_reducible refine (symbols_any _ _ _ wn wK _ _ _ cargo (H.out.go sByte HF2.out) hnc hcm _ _ _ ids (H2.out.go sInt HF2.out) hnc2 hcm2).mono ?_)
  rw [← HXS.out]
  rintro e v3 ⟨v, rfl, ho, hf⟩
  obtain ⟨A8, c8, rfl, hc8, hs8⟩ := ho.toNw sSm
  have HC8 := Lib.hid hc8
  have HP3 := Lib.hid (blk_go HP2.out hf)
  have HF3 : Hid (Fr w v3) := HF2.out.trans hf
  have HS8 : Hid (Sl 2 eSm v3 (LT v3.heap.size) A8 XS.length XS) := hs8.more sSm fun b hb => hb.2
  obtain ⟨L, hL⟩ : ∃ L, L = XS.length := ⟨_, rfl⟩
  rw [← hL] at HC8 HS8 hx30 hXr ⊢
  have HL := Lib.hid hL
  have hLm : L ≤ maxLen := by unfold maxLen; omega
  have hL32 : L * 32 ≤ lim := by unfold lim; omega
  have hp3 := HP3.out
  (obtain ⟨x0, x1⟩ := box2_ hp3)
  clear ho hf hs8 hc8 hp3 HP2 hL
  go_wp2_with fail
  (with_reducible refine (decode_eq _ _ _ wn wK _ _ _ XS HS8.out hLm out er HD.out).mono ?_)
  rintro e v4 ⟨A9, n9, c9, rfl, ⟨hn9, hc9, hm9⟩, hs9, hf⟩
  have HP4 := Lib.hid (blk_go HP3.out hf)
  have HF4 : Hid (Fr w v4) := HF3.out.trans hf
  have HS4 := Lib.hid (HS8.out.go sSm hf)
  have hp4 := HP4.out
  (obtain ⟨x0, x1⟩ := box2_ hp4)
  clear hf hs9 hp4 HP3 HS8
  go_wp2_with fail
  (with_reducible refine (cloneSyms_any _ _ _ _ XS HS4.out hL32).mono ?_)
  rintro e v5 ⟨v, rfl, ho, hf⟩
  have HO5 := Lib.hid ho
  have HF45 := Lib.hid hf
  clear ho hf
  go_wp2_with fail
  (with_reducible refine (reverseSyms_any _ v4 _ XS HO5.out (by rw [← HL.out]; unfold lim; omega) HF45.out).mono ?_)
  rintro e v6 ⟨rfl, ho, hf⟩
  obtain ⟨A6, c6, rfl, hc6, hs6⟩ := ho.slC sSm (by decide)
  have HP6 := Lib.hid (blk_go HP4.out hf)
  have HF6 : Hid (Fr w v6) := HF4.out.trans hf
  have HS6 := Lib.hid hs6
  have HS46 := Lib.hid (HS4.out.go sSm hf)
  rw [hXr] at HS6 ⊢
  have hp6 := HP6.out
  (obtain ⟨x0, x1⟩ := box2_ hp6)
  clear hf ho hs6 hc6 hp6 HP4 HS4 HO5 HF45
  go_wp2_with fail
  (with_reducible refine (decode_eq _ _ _ wn wK _ _ _ XS.reverse HS6.out hLm out er HD2.out).mono ?_)
  rintro e v7 ⟨A7, n7, c7, rfl, _, _, hf⟩
  have HP7 := Lib.hid (blk_go HP6.out hf)
  have HF7 : Hid (Fr w v7) := HF6.out.trans hf
  have HS7 := Lib.hid (HS46.out.go sSm hf)
  have hp7 := HP7.out
  (obtain ⟨x0, x1⟩ := box2_ hp7)
  clear hf hp7 HP6 HS6 HS46
  go_upto_region 10 with fail
  go_cut [16] (fun s16 wx => s16 = .int .i64 er ∧ Hid (Fr v7 wx))
  case first =>
    have HB : Hid (v7.drew.heap[w.heap.size]? = some (.cells #[.int .i64 n, .int .i64 K] 47 (0, 0))) := HP7.out
    have hb60 : L ≤ 60 ∧ L ≤ c8 ∧ c8 ≤ maxLen := ⟨by omega, HC8.out⟩
    have F1 : Fr v7 (v7.alloc (.cells #[.slice A8 L c8, .slice A8 L c8] 50)).drew := (frAlloc v7 _).drew
    have CC : Hid (Calls Try.prog 40 #[.slice (some ⟨v7.heap.size, 0, none⟩) 2 2] (v7.alloc (.cells #[.slice A8 L c8, .slice A8 L c8] 50)).drew fun e w' => ∃ A9 c9, e = .returned (.slice A9 (XS ++ XS).length c9) ∧ ((XS ++ XS).length ≤ c9 ∧ c9 ≤ maxLen) ∧ Sl 2 eSm w' (LT w'.heap.size) A9 (XS ++ XS).length (XS ++ XS) ∧ Fr v7 w') :=
      (concatSyms2 _ _ _ _ _ _ _ _ _ XS XS (heap_d (heap_new rfl)) (HS7.out.go sSm F1) (HS7.out.go sSm F1) hb60 hb60).mono fun e w' ⟨A9, c9, a, b, c, d⟩ => ⟨A9, c9, a, b, c, F1.trans d⟩
    have HX2 : Hid ((XS ++ XS).length ≤ maxLen) := by unfold Hid maxLen; omega
    obtain ⟨XX, hXX⟩ : ∃ XX, XX = XS ++ XS := ⟨_, rfl⟩
    rw [← hXX] at CC HX2 HD3
    clear hb60 F1 hX2 hXY hXX
    go_region_held3 (fun w' => w'.cell? ⟨w.heap.size, 0, none⟩ = some (.int .i64 n) ∧ w'.cell? ⟨w.heap.size, 1, none⟩ = some (.int .i64 K)) (first | exact box2_ HB.out | exact box2_ (heap_old HB.out) | go_keep)
      (first
        | (go_at_call 40; (with_reducible refine CC.out.mono ?_); rintro e w5 ⟨A12, c12, rfl, hc12, hs12, hf5⟩; have HB := Lib.hid (blk_go HP7.out hf5); have HG := Lib.hid hf5; have HS12 := Lib.hid hs12; clear hf5 hs12 hc12)
        | (go_at_call 34; (with_reducible refine (decode_eq _ _ _ wn wK _ _ _ XX HS12.out HX2.out out er HD3.out).mono ?_); rintro e w6 ⟨A11, n11, c11, rfl, _, _, hf6⟩; have HB := Lib.hid (blk_go HB.out hf6); have HG := Lib.hid (HG.out.trans hf6); clear hf6)
        | fail)
    all_goals
      go_wp2_with fail
      go_meet
      exact ⟨rfl, HG.out⟩
  case rest =>
    obtain ⟨rfl, HF78⟩ := hcut
    obtain ⟨v8, rfl⟩ : ∃ v8, v8 = wc := ⟨_, rfl⟩
    have HP8 := Lib.hid (blk_go HP7.out HF78.out)
    have HF8 : Hid (Fr w v8) := HF7.out.trans HF78.out
    have HS8 := Lib.hid (HS7.out.go sSm HF78.out)
    have hp8 := HP8.out
    clear x0 x1
    (obtain ⟨x0, x1⟩ := box2_ hp8)
    clear hp8 HP7 HS7
    go_upto_region 13 with fail
    go_cut [17, 18] (fun s17 s18 wx => ∃ A9 n9 c9, s17 = .slice A9 n9 c9 ∧ s18 = .int .i64 er4 ∧ (n9 ≤ 360 ∧ n9 ≤ c9 ∧ c9 ≤ maxLen) ∧ Hid (Sl 1 eByte wx (LT wx.heap.size) A9 n9 out4) ∧ Hid (Fr v8 wx))
    case first =>
      have HB : Hid (v8.drew.heap[w.heap.size]? = some (.cells #[.int .i64 n, .int .i64 K] 47 (0, 0))) := HP8.out
      have hb60 : L ≤ 60 ∧ L ≤ c8 ∧ c8 ≤ maxLen := ⟨by omega, HC8.out⟩
      have HFD : Hid (Fr w v8.drew) := HF8.out.drew
      have CS : Hid (Calls Try.prog 28 #[.agg #[.int .i64 n, .int .i64 K], .slice A n c, .slice A3 n3 c3] v8.drew fun e w' => ∃ Ay cy, e = .returned (.slice Ay YS.length cy) ∧ (YS.length ≤ cy ∧ cy ≤ maxLen) ∧ Sl 2 eSm w' (LT w'.heap.size) Ay YS.length YS ∧ Fr v8 w') :=
        (symbols_any v8.drew _ _ wn wK _ _ _ cargo (H.out.go sByte HFD.out) hnc hcm _ _ _ more (H3.out.go sInt HFD.out) hnc3 hcm3).mono fun e w' ⟨v, he, ho, hf⟩ => by
          rw [← HYS.out] at ho
          obtain ⟨Ay, cy, rfl, hc, hs⟩ := ho.toNw sSm
          exact ⟨Ay, cy, he, hc, hs.more sSm fun b hb => hb.2, (show Fr v8 v8.drew from (Below.refl _ _).drew).trans hf⟩
      obtain ⟨XY, hXY2⟩ : ∃ XY, XY = XS ++ YS := ⟨_, rfl⟩
      have HX2 : Hid (XY.length ≤ maxLen) := by rw [hXY2]; unfold Hid maxLen; omega
      obtain ⟨M, hM⟩ : ∃ M, M = YS.length := ⟨_, rfl⟩
      rw [← hXY2] at HD4
      rw [← hM] at CS hy30
      have CC : Hid (∀ (w5 : World) Ay cy, (M ≤ cy ∧ cy ≤ maxLen) → Sl 2 eSm w5 (LT w5.heap.size) Ay M YS → Fr v8 w5 → Calls Try.prog 40 #[.slice (some ⟨w5.heap.size, 0, none⟩) 2 2] (w5.alloc (.cells #[.slice A8 L c8, .slice Ay M cy] 50)) fun e w' => ∃ A9 c9, e = .returned (.slice A9 XY.length c9) ∧ (XY.length ≤ c9 ∧ c9 ≤ maxLen) ∧ Sl 2 eSm w' (LT w'.heap.size) A9 XY.length XY ∧ Fr w5 w') := fun w5 Ay cy hc hs hf => by
        rw [hXY2]
        have F1 : Fr w5 (w5.alloc (.cells #[.slice A8 L c8, .slice Ay M cy] 50)) := frAlloc _ _
        exact (concatSyms2 _ _ _ _ _ _ _ _ _ XS YS (heap_new rfl) (HS8.out.go sSm (hf.trans F1)) (hs.go sSm F1) hb60 ⟨by omega, hc⟩).mono fun e w' ⟨A9, c9, a, b, c, d⟩ => ⟨A9, c9, a, b, c, F1.trans d⟩
      clear hb60 hXY hXY2 hM
      go_region_held3 (fun w' => w'.cell? ⟨w.heap.size, 0, none⟩ = some (.int .i64 n) ∧ w'.cell? ⟨w.heap.size, 1, none⟩ = some (.int .i64 K)) (first | exact box2_ HB.out | exact box2_ (heap_old HB.out) | go_keep)
        (first
          | (go_at_call 28; (with_reducible refine CS.out.mono ?_); rintro e w5 ⟨Ay, cy, rfl, hcy, hsy, hf5⟩; have HB := Lib.hid (blk_go HP8.out hf5); have HG := Lib.hid hf5; have CC5 := Lib.hid (CC.out w5 Ay cy hcy hsy hf5); clear hf5 hsy hcy)
          | (go_at_call 40; (with_reducible refine CC5.out.mono ?_); rintro e w6 ⟨A12, c12, rfl, hc12, hs12, hf5⟩; have HB := Lib.hid (blk_go HB.out hf5); have HG := Lib.hid (HG.out.trans hf5); have HS12 := Lib.hid hs12; clear hf5 hs12 hc12)
          | (go_at_call 34; (with_reducible refine (decode_eq _ _ _ wn wK _ _ _ XY HS12.out HX2.out out4 er4 HD4.out).mono ?_); rintro e w7 ⟨A11, n11, c11, rfl, hc11, hs11, hf6⟩; have HB := Lib.hid (blk_go HB.out hf6); have HG := Lib.hid (HG.out.trans hf6); have HS11 := Lib.hid hs11; have HC11 := Lib.hid hc11; clear hf6 hs11 hc11)
          | fail)
      all_goals
        go_wp2_with fail
        go_meet
        exact ⟨_, _, _, rfl, rfl, HC11.out, HS11.out, HG.out⟩
    case rest =>
      obtain ⟨A10, n10, c10, rfl, rfl, ⟨hn10, hc10, hm10⟩, HS10, HF89⟩ := hcut
      obtain ⟨v9, rfl⟩ : ∃ v9, v9 = wc := ⟨_, rfl⟩
      have HF9 : Hid (Fr w v9) := HF8.out.trans HF89.out
      rcases hDC.out with h0 | ⟨h0, h1, h2⟩
      · subst h0
        go_wp2_with fail
        go_ret
        exact ⟨rfl, HF9.out⟩
      · subst h0 h1 h2
        have hnm : n10 ≤ maxLen := by unfold maxLen; omega
        go_wp2_with fail
        (with_reducible refine (equalBytes_lit _ _ _ _ _ _ _ out4 out4 true (by simp) HS10.out (H.out.go sByte HF9.out) hnm).mono ?_)
        rintro e v10 ⟨rfl, hf⟩
        have HF10 : Hid (Fr w v10) := HF9.out.trans hf
        clear hf
        go_wp2_with fail
        go_ret
        exact ⟨rfl, HF10.out⟩

set_option maxRecDepth 100000 in
set_option maxHeartbeats 1000000 in
theorem solveOrder_bad (w : World) (B K : Int) (wB : wfI B) (wK : wfI K) (A : Option Addr) (n c : Nat) (A2 : Option Addr) (n2 c2 : Nat) (A3 : Option Addr) (n3 c3 : Nat) (hm2 : n2 * 8 ≤ lim) (hm3 : n3 * 8 ≤ lim) (hbad : cutCheck B K ≠ 0 ∨ (n : Int) ≠ B ∨ 30 < n2 + n3) :
    Calls Try.prog 8 #[.agg #[.int .i64 B, .int .i64 K], .slice A n c, .slice A2 n2 c2, .slice A3 n3 c3] w fun e w' => e = .returned (.bool true) ∧ Fr w w' := by
  obtain ⟨ck, hk⟩ : ∃ ck, ck = cutCheck B K := ⟨_, rfl⟩
  rw [← hk] at hbad
  (have Hk := Lib.hid hk; clear hk)
  obtain ⟨T, hT⟩ : ∃ T : Nat, T = n2 + n3 := ⟨_, rfl⟩
  have hTw : wrap64 ((n2 : Int) + n3) = (T : Int) := by
    unfold lim at hm2 hm3
    rw [show ((n2 : Int) + n3) = (T : Int) from by omega]
    exact IntWalk.wrap64_in _ (by omega)
  rw [← hT] at hbad
  clear hm2 hm3 hT
  obtain ⟨b1, hb1⟩ : ∃ b1, b1 = (ck != 0) := ⟨_, rfl⟩
  obtain ⟨b2, hb2⟩ : ∃ b2, b2 = ((n : Int) != B) := ⟨_, rfl⟩
  obtain ⟨b3, hb3⟩ : ∃ b3, b3 = decide ((T : Int) > 30) := ⟨_, rfl⟩
  have hb : b1 = true ∨ (b1 = false ∧ b2 = true) ∨ (b1 = false ∧ b2 = false ∧ b3 = true) := by
    subst hb1 hb2 hb3
    simp only [bne_iff_ne, bne_eq_false_iff_eq, decide_eq_true_eq, ne_eq]
    omega
  clear hbad
  rcases hb with h1 | ⟨h1, h2⟩ | ⟨h1, h2, h3⟩
  all_goals
    rw [h1] at hb1
    try rw [h2] at hb2
    try rw [h3] at hb3
    have e1 := hb1.symm
    have e2 := hb2.symm
    have e3 := hb3.symm
    clear h1 hb1 hb2 hb3
    go_enter Try.func8, Try.ntmps8
    go_wp2_with fail
    (with_reducible refine (solved_any _).mono ?_)
    rintro e v1 ⟨rfl, hf⟩
    have HP1 : Hid (v1.heap[w.heap.size]? = some (.cells #[.int .i64 B, .int .i64 K] 47 (0, 0))) := blk_go (by (repeat' (with_reducible (first | (refine heap_new ?_; (first | (simp; done) | rfl); done) | refine heap_dn ?_ | refine heap_d ?_ | refine heap_old ?_)))) hf
    have HF1 : Hid (Fr w v1) := Fr.trans (by (repeat' (first | exact Below.refl _ _ | refine below_drewN ?_ _ | refine Below.drew ?_ | refine frA ?_ _))) hf
    have hp1 := HP1.out
    (obtain ⟨x0, x1⟩ := box2_ hp1)
    clear hf hp1
    go_wp2_with fail
    (with_reducible refine (cutCheck_any _ _ _ wB wK).mono ?_)
    rw [← Hk.out]
    rintro e v2 ⟨rfl, hf⟩
    have HF2 : Hid (Fr w v2) := HF1.out.trans hf
    have hp2 := blk_go HP1.out hf
    (obtain ⟨x0, x1⟩ := box2_ hp2)
    clear hf hp2
    go_wp2_with fail
    (with_reducible refine (solved_any _).mono ?_)
    rintro e v3 ⟨rfl, hf⟩
    have HF3 : Hid (Fr w v3) := HF2.out.trans hf
    clear hf
    go_wp2_with fail
    go_ret
    exact ⟨rfl, HF3.out⟩

theorem solveOrder_any (w : World) (B K : Int) (wB : wfI B) (wK : wfI K) (A : Option Addr) (n c : Nat) (cargo : List UInt8) (h : Sl 1 eByte w (LT w.heap.size) A n cargo) (_l : n * 1 ≤ lim) (hnc : n ≤ c) (hcm : c ≤ maxLen) (A2 : Option Addr) (n2 c2 : Nat) (ids : List Int) (h2 : Sl 1 eInt w (LT w.heap.size) A2 n2 ids) (_l2 : n2 * 8 ≤ lim) (hnc2 : n2 ≤ c2) (hcm2 : c2 ≤ maxLen) (A3 : Option Addr) (n3 c3 : Nat) (more : List Int) (h3 : Sl 1 eInt w (LT w.heap.size) A3 n3 more) (_l3 : n3 * 8 ≤ lim) (hnc3 : n3 ≤ c3) (hcm3 : c3 ≤ maxLen) :
    Calls Try.prog 8 #[.agg #[.int .i64 B, .int .i64 K], .slice A n c, .slice A2 n2 c2, .slice A3 n3 c3] w fun e w' => e = .returned (.bool true) ∧ Fr w w' := by
  by_cases hb : cutCheck B K ≠ 0 ∨ (n : Int) ≠ B
  · exact solveOrder_bad w B K wB wK A n c A2 n2 c2 A3 n3 c3 _l2 _l3 (hb.elim .inl fun h => .inr (.inl h))
  · by_cases hf : n2 + n3 ≤ 30
    · obtain ⟨k, rfl, rfl, hck⟩ := plan_cases hb
      exact solveOrder_good w k A n c cargo h hnc hcm A2 n2 c2 ids h2 hnc2 hcm2 A3 n3 c3 more h3 hnc3 hcm3 hck hf
    · exact solveOrder_bad w B K wB wK A n c A2 n2 c2 A3 n3 c3 _l2 _l3 (.inr (.inr (by omega)))
end Go.Proofs.Ytnfjghldcopaaaa
namespace Go.Proofs.Ytnfjghldcopaaaa.solveOrderLaw
open Go.ChangeShapes Go.WideShapes Go.ChangeAt Go.RowKit

set_option maxRecDepth 100000 in
theorem lifted (os : Os) (started : os.Started) (H : Type) (enc : TypeId × Value → H) :
    ReturnsInHanded {} Try.checked os 8 .any (Rows.solveOrderSpec.pre6 enc Try.prog Try.f8 Rows.solveOrderRow.domain false) (Rows.solveOrderSpec.post enc Try.prog Try.f8 false true false false) := by
  refine returnsInHanded_of_change_sized (C := Try.checked) own started (by kernel_rfl) Try.func8
    (ChangeSpec.witness6 (enc := enc) (C := Try.checked) false ⟨#[], #[.agg #[.int .i64 0, .int .i64 0], .slice none 0 0, .slice none 0 0, .slice none 0 0], []⟩ 8 (by kernel_rfl) (by kernel_rfl) (by kernel_rfl) (by kernel_rfl)) ?_
  intro W base args ds gs before hval0 hW hcnd hsz0 _
  have hval : ∀ (j : Nat) t v, Try.f8.params[j]? = some t → args[j]? = some v → Value.okWide Try.prog W .any base t v := hval0
  have hsz : (DataW.weightsEach Try.prog (Try.f8.params.toList ++ Rows.solveOrderSpec.plain.varTypes Try.prog) (ds ++ gs)).all (· ≤ reachBytes) = true := hsz0
  have hW' := hW
  obtain ⟨p, q, hA0, hV, rfl, hfz, hnd⟩ := hW
  have hA : DataW.TrodAll enc Try.prog W 0 (fun _ => true) true Try.f8.params.toList args.toList ds p := hA0
  rw [Try.params8] at hA hval hsz
  obtain ⟨v0, vs0, d0, ds0, p0, q0, hargs, rfl, rfl, h0, r0⟩ := trodAll_cons hA
  obtain ⟨v1, vs1, d1, ds1, p1, q1, rfl, rfl, rfl, h1, r1⟩ := trodAll_cons r0
  obtain ⟨v2, vs2, d2, ds2, p2, q2, rfl, rfl, rfl, h2, r2⟩ := trodAll_cons r1
  obtain ⟨v3, vs3, d3, ds3, p3, q3, rfl, rfl, rfl, h3, r3⟩ := trodAll_cons r2
  obtain ⟨rfl, rfl, rfl⟩ := trodAll_nil r3
  obtain rfl : args = #[v0, v1, v2, v3] := by cases args; simp_all
  obtain ⟨rfl, rfl⟩ := trodVars_none hV
  have k0 := h0
  have lt0 : ∀ x ∈ p0, x.block < W.heap.size := by obtain ⟨m, hm⟩ := k0; exact DataW.trod_lt m _ _ _ hm
  have s0 : ∀ n ∈ d0.weights Try.prog 47, n ≤ reachBytes := fun n hn => of_decide_eq_true (List.all_eq_true.1 hsz n (DataW.weights_mem_each (j := 0) rfl rfl n hn))
  obtain ⟨B0, K0, rfl, wB0, wK0⟩ := openPlan (hval 0 47 v0 rfl rfl) h0
  have k1 := h1
  have lt1 : ∀ x ∈ p1, x.block < W.heap.size := by obtain ⟨m, hm⟩ := k1; exact DataW.trod_lt m _ _ _ hm
  have s1 : ∀ n ∈ d1.weights Try.prog 26, n ≤ reachBytes := fun n hn => of_decide_eq_true (List.all_eq_true.1 hsz n (DataW.weights_mem_each (j := 1) rfl rfl n hn))
  obtain ⟨A1, n1, c1, rfl⟩ := okWide_slice Try.underlying26 (hval 1 26 v1 rfl rfl)
  obtain ⟨y1, hy1⟩ : ∃ y, eBlock W (LT W.heap.size) (fun j => [Value.slice A1 n1 c1][j]?) y := by obtain ⟨fuel, hf⟩ := h1; exact (openBytes _ _ _ _ _ _ hf s1).2
  obtain ⟨_, _, _, e1, ⟨l1, lc1, lm1⟩, hs1⟩ := hy1; simp at e1; obtain ⟨rfl, rfl, rfl⟩ := e1
  have k2 := h2
  have lt2 : ∀ x ∈ p2, x.block < W.heap.size := by obtain ⟨m, hm⟩ := k2; exact DataW.trod_lt m _ _ _ hm
  have s2 : ∀ n ∈ d2.weights Try.prog 48, n ≤ reachBytes := fun n hn => of_decide_eq_true (List.all_eq_true.1 hsz n (DataW.weights_mem_each (j := 2) rfl rfl n hn))
  obtain ⟨A2, n2, c2, rfl⟩ := okWide_slice Try.underlying48 (hval 2 48 v2 rfl rfl)
  obtain ⟨y2, hy2⟩ : ∃ y, (eSl 1 8 eInt) W (LT W.heap.size) (fun j => [Value.slice A2 n2 c2][j]?) y := by obtain ⟨fuel, hf⟩ := h2; exact (openInts _ _ _ _ _ _ hf s2).2
  obtain ⟨_, _, _, e2, ⟨l2, lc2, lm2⟩, hs2⟩ := hy2; simp at e2; obtain ⟨rfl, rfl, rfl⟩ := e2
  have k3 := h3
  have lt3 : ∀ x ∈ p3, x.block < W.heap.size := by obtain ⟨m, hm⟩ := k3; exact DataW.trod_lt m _ _ _ hm
  have s3 : ∀ n ∈ d3.weights Try.prog 48, n ≤ reachBytes := fun n hn => of_decide_eq_true (List.all_eq_true.1 hsz n (DataW.weights_mem_each (j := 3) rfl rfl n hn))
  obtain ⟨A3, n3, c3, rfl⟩ := okWide_slice Try.underlying48 (hval 3 48 v3 rfl rfl)
  obtain ⟨y3, hy3⟩ : ∃ y, (eSl 1 8 eInt) W (LT W.heap.size) (fun j => [Value.slice A3 n3 c3][j]?) y := by obtain ⟨fuel, hf⟩ := h3; exact (openInts _ _ _ _ _ _ hf s3).2
  obtain ⟨_, _, _, e3, ⟨l3, lc3, lm3⟩, hs3⟩ := hy3; simp at e3; obtain ⟨rfl, rfl, rfl⟩ := e3
  clear hA0 hval0
  refine (solveOrder_any W B0 K0 wB0 wK0 A1 n1 c1 y1 hs1 l1 lc1 lm1 A2 n2 c2 y2 hs2 l2 lc2 lm2 A3 n3 c3 y3 hs3 l3 lc3 lm3).mono fun e W' ⟨he, bel⟩ => ?_
  subst he
  exact ⟨_, rfl, _, _, _, [], _, [], hW', trodAll_mk1 (shut_bool Try.underlying4 _), (trodAll_cons_mk (Below.trod laidOut (by kernel_rfl) (of_decide_eq_true (by kernel_rfl)) k0 bel lt0) (trodAll_cons_mk (Below.trod laidOut (by kernel_rfl) (of_decide_eq_true (by kernel_rfl)) k1 bel lt1) (trodAll_cons_mk (Below.trod laidOut (by kernel_rfl) (of_decide_eq_true (by kernel_rfl)) k2 bel lt2) (trodAll_cons_mk (Below.trod laidOut (by kernel_rfl) (of_decide_eq_true (by kernel_rfl)) k3 bel lt3) trodAll_mk0)))), rfl, bel.frame _, fun h => by cases h⟩

/-- The statement: the law answers true for every input. -/
theorem proved : Rows.SolveOrderSaid :=
  OpenClaim.holds_of_wide 8 Try.f8 rfl rfl rfl rfl rfl rfl rfl ⟨rfl, rfl, rfl, rfl, rfl⟩ rfl rfl rfl rfl rfl (by kernel_rfl) Try.func8 (by kernel_rfl)
    (of_decide_eq_true (by kernel_rfl)) (by unfold Func.isWrapper; first | (rw [if_pos (by decide +kernel)]; kernel_rfl) | (rw [if_neg (by decide +kernel)]; exact ⟨rfl, rfl⟩))
    (fun os started H enc _ => lifted os started H enc)
#print axioms proved
end Go.Proofs.Ytnfjghldcopaaaa.solveOrderLaw
