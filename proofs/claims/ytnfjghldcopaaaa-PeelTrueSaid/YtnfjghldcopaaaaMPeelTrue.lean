/- 'PeelTrue' answers true for every input, and leaves its arguments as they were. No condition. -/
import Derived.Test.YtnfjghldcopaaaaOwn
import Derived.Laws.AppendOwnNone
import Derived.Lib.AppendZerosOnto
import Derived.Test.YtnfjghldcopaaaaSyms
import Derived.Test.YtnfjghldcopaaaaClone
import Derived.Test.YtnfjghldcopaaaaPeelP
import Derived.Test.YtnfjghldcopaaaaKnown
import Derived.Test.YtnfjghldcopaaaaApp
import Derived.Test.YtnfjghldcopaaaaChg
import Derived.Lib.LazyBuf
import Derived.Test.YtnfjghldcopaaaaPickE
import Derived.Test.YtnfjghldcopaaaaCode
import Derived.Test.YtnfjghldcopaaaaBox
import Derived.StillTailTactics
import Derived.Deep.RegionHeld3
import Derived.Deep.DeepCutAuto
import Derived.Deep.Cut
import Derived.Test.YtnfjghldcopaaaaDecF
import Derived.Test.YtnfjghldcopaaaaCut
import Derived.Deep.RegionLaw
import Derived.Test.YtnfjghldcopaaaaEq
import Derived.Test.YtnfjghldcopaaaaBase
import Derived.Test.YtnfjghldcopaaaaSolveNever
import Derived.Test.YtnfjghldcopaaaaOpen
import Derived.Test.YtnfjghldcopaaaaOpenR
set_option linter.unusedSimpArgs false
set_option linter.unusedVariables false
namespace Go.Proofs.Ytnfjghldcopaaaa
set_option maxRecDepth 100000
open Go.RowKit

/-- append of nothing, from nil. -/
theorem wpList_apps_nil {α : Type} {r : ERd α} {size : Nat} {P : Program} (w : World) {ops : Array Oper} {rest : List Oper} {o : Oper} {a : Act} {Q : Exit → Act → World → Prop} (hgd : o.guard = none) (s x : Operand) (t : TypeId)
    (ho : o.op = .call { callee := .builtin .append, args := #[s, x], argTypes := #[t, t] })
    (base : Nat) (e : TypeId) (i : TypeInfo) (ht : P.underlying t = some (.slice e)) (hi : P.info? e = some i)
    (v : Value) (xs : List α) (c : Nat) (hs : a.eval s = v) (hown : Own size r w base e v xs) (hx : a.eval x = .slice none 0 c)
    (h : wpList P ops Q rest (a.put o.dst v) w) : wpList P ops Q (o :: rest) a w := by
  obtain ⟨cs, hrow, _⟩ := hown
  refine wpList_plain hgd fun K hK => ?_
  have hrun : (Builtin.append_ #[t, t] o.type #[v, .slice none 0 c]).run P w = .ok v w := by
    rcases hrow.2 with ⟨rfl, _⟩ | ⟨g, cap, cur, rfl, _, _, hnc, _⟩
    · simp [Builtin.append_, run_underlying ht, sizeOf, typeInfo, hi, Builtin.lenOf, Builtin.firstCells]
    · simp [Builtin.append_, run_underlying ht, sizeOf, typeInfo, hi, Builtin.lenOf, Builtin.firstCells, hnc, storeCells]
  unfold Oper.wp
  simp [execOp, ho, resolve, invoke, builtin, hs, hx, hrun, Result.andThen]
  exact hK _ _ h

/-- How many in all. -/
def lens {α : Type} (ls : List (List α)) : Nat := (ls.map List.length).sum
theorem lens_take_succ {α : Type} {ls : List (List α)} {k : Nat} {l : List α} (h : ls[k]? = some l) : lens (ls.take (k + 1)) = lens (ls.take k) + l.length := by
  unfold lens
  rw [take_snoc' h, List.map_append, List.sum_append]; simp
theorem lens_take_le {α : Type} (ls : List (List α)) (k : Nat) : lens (ls.take k) ≤ lens ls := by
  unfold lens
  have : ls = ls.take k ++ ls.drop k := (List.take_append_drop k ls).symm
  conv => rhs; rw [this, List.map_append, List.sum_append]
  omega
theorem length_flatten_lens {α : Type} (ls : List (List α)) : ls.flatten.length = lens ls := by unfold lens; rw [List.length_flatten]

theorem Els.slC {α : Type} {size bytes : Nat} {r : ERd α} {w : World} {S : Nat → Prop} {n k : Nat} {ad : Addr} {ls : List (List α)} (h : Els 1 (eSl size bytes r) w S ad n ls) (hk : k < n) :
    ∃ A' n' c' l, ls[k]? = some l ∧ w.cell? (ad.add k) = some (.slice A' n' c') ∧ n' * bytes ≤ lim ∧ n' ≤ c' ∧ c' ≤ maxLen ∧ Sl size r w S A' n' l := by
  obtain ⟨x, hx, A', n', c', h0, h1, h2⟩ := h.at_ hk
  exact ⟨A', n', c', x, hx, by simpa using h0, h1.1, h1.2.1, h1.2.2, h2⟩


theorem growBlock_nil (w : World) (n : Nat) (hm : n * 1 ≤ lim) (h63 : n ≤ lim) :
    Calls Try.prog 110 #[.slice none 0 0, .int .i64 n] w fun e w' => ∃ v, e = .returned v ∧ Own 1 eByte w' w.heap.size 5 v ([] : List (UInt8)) ∧ Fr w w' := by
  obtain ⟨i0, hi0, hi1⟩ := Option.map_eq_some_iff.1 infoByte
  simp only [Prod.mk.injEq] at hi1
  obtain ⟨hz0, hz1, hz2⟩ := hi1
  unfold lim at h63 hm
  have h1 : ¬ ((n : Int) < 0) := by omega
  by_cases h0 : n = 0
  · subst h0
    clear hi0 hz0 hz1 hz2
    go_enter Try.func110, Try.ntmps110
    go_wp2
    go_ret
    exact ⟨_, rfl, Own.nil, Below.refl _ _⟩
  · have h4 : (n : Int) > 0 := by omega
    obtain ⟨G, hG⟩ : ∃ G, G = grownCap w n 0 5 := ⟨_, rfl⟩
    obtain ⟨cur, hcur⟩ : ∃ cur, cur = Builtin.zeroCells ((bV 0) : Value).cells n ++ Builtin.zeroCells ((bV 0) : Value).cells (G - n) := ⟨_, rfl⟩
    have hge := grownCap_ge w n 0 5
    have hle := grownCap_le_maxLen w n 0 5 (by unfold maxLen; omega)
    rw [← hG] at hge hle
    have hcs : cur.size = G * 1 := by
      rw [hcur, Array.size_append, size_zeroCells, size_zeroCells, ← Nat.add_mul]
      show (n + (G - n)) * 1 = G * 1
      congr 1; omega
    have hrz : Hid (∀ ty, (Builtin.append_ #[27, 3] ty #[.slice none 0 0, .int .i64 (n : Int)]).run Try.prog w = .ok (.slice (some ⟨w.heap.size, 0, none⟩) n G) (w.drew.alloc (.cells cur 5))) := fun ty => by
      have h := Lib.run_append_grow_zeros (P := Try.prog) w 27 3 ty 5 i0 (bV 0) .i64 .i64 Try.underlying27 Try.underlying3 hi0 hz0 Option.none 0 0 [] (run_firstCells_none w.drew i0.size 0 0 0) n (by omega) (by rw [hz1]; decide) (by omega) (by omega)
        (by rw [hz2]; omega) (by rw [hz2, Nat.zero_add]; exact growslice_fits (by omega) (by omega))
      rw [Nat.zero_add] at h
      rw [h, hcur, hG]
      simp
    have HO : Hid (Own 1 eByte (w.drew.alloc (.cells cur 5)) w.heap.size 5 (.slice (some ⟨w.heap.size, 0, none⟩) 0 G) ([] : List (UInt8))) :=
      ⟨[], ⟨by simp, .inr ⟨w.heap.size, G, cur, rfl, Nat.le_refl _, heap_alloc_new w.drew _, Nat.zero_le _, hle, hcs, by simp⟩⟩, fun i x h => by simp at h⟩
    clear hG hcur hle hcs hi0 hz0 hz1 hz2
    go_enter Try.func110, Try.ntmps110
    go_wp2_with (at_builtin; refine Lib.wpList_append_run _ rfl _ _ _ _ rfl _ _ rfl rfl _ _ (hrz.out _) ?_)
    go_ret
    exact ⟨_, rfl, HO.out, (Below.refl _ _).drew.alloc (Nat.le_refl _) _⟩

set_option maxHeartbeats 1000000 in
theorem concatBlock_any (w : World) (A : Option Addr) (n c : Nat) (ls : List (List (UInt8))) (h : Sl 1 (eSl 1 1 eByte) w (LT w.heap.size) A n ls) (hm : n ≤ lim) (hs : lens ls * 1 ≤ lim) (hs1 : lens ls ≤ lim) :
    Calls Try.prog 97 #[.slice A n c] w fun e w' => ∃ v, e = .returned v ∧ Own 1 eByte w' w.heap.size 5 v ls.flatten ∧ Fr w w' := by
  obtain ⟨i0, hi0, _⟩ := Option.map_eq_some_iff.1 infoByte
  have hm1 := hm
  have hs2 := hs1
  unfold lim at hm1 hs2
  (have H := Lib.hid h; clear h; have Hi0 := Lib.hid hi0; clear hi0)
  go_enter Try.func97, Try.ntmps97
  go_wp2_with fail
  go_loop [3, 11] (fun s i => ∃ k : Nat, k ≤ n ∧ i = .int .i64 k ∧ s = .int .i64 (lens (ls.take k) : Nat)) (fun _ i => n - (intOf i).toNat)
  case atStart => exact ⟨0, Nat.zero_le _, rfl, by simp [lens]⟩
  case round =>
    obtain ⟨k, hk, rfl, rfl⟩ := hrel
    by_cases hlt : k < n
    · obtain ⟨ad, rfl, hE⟩ := H.out.els (by omega)
      obtain ⟨A', n', c', l, hl, hcl, hm', hc1, hc2, hsl⟩ := hE.slC hlt
      have h1 := lens_take_succ hl
      have h2 := lens_take_le ls (k + 1)
      rw [hsl.1] at h1
      obtain ⟨a, ha⟩ : ∃ a, a = lens (ls.take k) := ⟨_, rfl⟩
      obtain ⟨b, hb⟩ : ∃ b, b = lens (ls.take (k + 1)) := ⟨_, rfl⟩
      rw [← ha] at h1 ⊢
      rw [← hb] at h1 h2
      have hab : a + n' ≤ 140737488355328 := by omega
      have hneg : ¬ ((a : Int) + (n' : Int) < 0) := by omega
      have HB : Hid (b = a + n') := h1
      have HB2 := Lib.hid hb
      clear hl hsl h1 ha hb
      go_wp2_with fail
      go_round
      case rel => exact ⟨k + 1, by omega, by go_num, by rw [← HB2.out, HB.out]; go_num⟩
      case measure => simp [intOf]; omega
    · obtain rfl : k = n := by omega
      have ht : Hid (ls.take k = ls) := List.take_of_length_le (by rw [H.out.1]; exact Nat.le_refl _)
      rw [ht.out]
      obtain ⟨T, hT⟩ : ∃ T, T = lens ls := ⟨_, rfl⟩
      rw [← hT] at hs hs1 ⊢
      (have HT := Lib.hid hT; clear hT)
      go_wp2_with fail
      (with_reducible refine (growBlock_nil _ T hs hs1).mono ?_)
      rintro e w1 ⟨v1, rfl, ho1, hf1⟩
      (have Ho1 := Lib.hid ho1; clear ho1; have Hf1 := Lib.hid hf1; clear hf1)
      go_wp2_with fail
      go_loopw [6, 27] (fun v i wr => ∃ j : Nat, j ≤ k ∧ i = .int .i64 j ∧ Hid (Own 1 eByte wr w.heap.size 5 v (ls.take j).flatten) ∧ Hid (Below w.heap.size w wr)) (fun _ i _ => k - (intOf i).toNat)
      case atStart => exact ⟨0, Nat.zero_le _, rfl, Ho1, Hf1⟩
      case round =>
        obtain ⟨j, hj, rfl, HO, HF⟩ := hrel
        by_cases hlt2 : j < k
        · obtain ⟨ad, rfl, hE⟩ := H.out.els (by omega)
          obtain ⟨A', n', c', l, hl, hcl, hm', hc1, hc2, hsl⟩ := hE.slC hlt2
          have hcw : wr.cell? (ad.add j) = some (.slice A' n' c') := (HF.out.cell (p := ad.add j) (by rw [block_of_add]; exact hE.2.1)).trans hcl
          have Hlen : Hid ((ls.take j).flatten.length + n' ≤ T) := by
            have h1 := lens_take_succ hl
            have h2 := lens_take_le ls (j + 1)
            rw [hsl.1] at h1
            have := HT.out
            rw [Hid, length_flatten_lens]; omega
          have HT2 : Hid ((ls.take (j + 1)).flatten = (ls.take j).flatten ++ l) := by rw [Hid, take_snoc' hl, List.flatten_append]; simp
          have HTb : Hid (T * 1 ≤ lim ∧ T ≤ lim) := ⟨hs, hs1⟩
          cases A' with
          | none =>
            have hn0 : n' = 0 := by
              rcases Nat.eq_zero_or_pos n' with h0 | h0
              · exact h0
              · obtain ⟨ad', e, _⟩ := hsl.2 h0; cases e
            subst hn0
            have hl0 : l = [] := List.eq_nil_of_length_eq_zero hsl.1
            subst hl0
            have HO3 : Hid (Own 1 eByte wr w.heap.size 5 u6 (ls.take (j + 1)).flatten) := by rw [HT2.out, List.append_nil]; exact HO.out
            clear hl hcl hsl
            go_wp2_with (at_builtin; refine wpList_apps_nil _ rfl _ _ 27 rfl w.heap.size 5 i0 Try.underlying27 Hi0.out _ _ c' rfl HO.out rfl ?_)
            go_roundw
            case rel => exact ⟨j + 1, by omega, by go_num, HO3, HF⟩
            case measure => simp [intOf]; omega
          | some adb =>
            obtain ⟨news, hnl, hnc, hn1, hnr⟩ : ∃ news : List Value, news.length = n' * 1 ∧ (∀ j u, news[j]? = some u → w.cell? (adb.add j) = some u ∧ adb.block < w.heap.size) ∧ (∀ u ∈ news, u.oneCell' = true) ∧ ∀ i x, l[i]? = some x → eByte w (LT w.heap.size) (fun j => news[i * 1 + j]?) x := by
              rcases Nat.eq_zero_or_pos n' with h0 | h0
              · have hl0 : l = [] := List.eq_nil_of_length_eq_zero (by rw [hsl.1]; exact h0)
                exact ⟨[], by simp [h0], fun j u hu => by simp at hu, fun u hu => by simp at hu, fun i x hx => by simp [hl0] at hx⟩
              · obtain ⟨ad', e, hE'⟩ := hsl.els h0
                injection e with e
                subst e
                obtain ⟨cs, k1, k2, k3, k4⟩ := hE'.cells fByte sByte (by decide)
                exact ⟨cs, k1, fun j u hu => ⟨k2 j u hu, hE'.2.1⟩, k3, k4⟩
            have hll := hsl.1
            have hfar : Hid (∀ b, b < w.heap.size → u6.ownBlock ≠ some b) := fun b hb => HO.out.far hb
            clear hl hcl hsl
            (have Hnl := Lib.hid hnl; clear hnl; have Hnc := Lib.hid hnc; clear hnc; have Hn1 := Lib.hid hn1; clear hn1; have Hnr := Lib.hid hnr; clear hnr; have Hll := Lib.hid hll; clear hll)
            go_wp2_with (at_builtin; refine wpList_apps _ rfl _ _ 27 rfl w.heap.size 5 _ _ _ Try.underlying27 infoByte rfl (by decide) sByte _ (ls.take j).flatten rfl HO.out adb n' c' news rfl Hnl.out ?c1 Hn1.out l Hll.out ?c3 ?c4 ?c5 ?c6 ?_)
            case c1 => intro i u hu; obtain ⟨k1, k2⟩ := Hnc.out i u hu; exact (HF.out.cell (by rw [block_of_add]; exact k2)).trans k1
            case c3 =>
              intro i x hx
              exact (sByte).more (S := LT w.heap.size) (fun b hb => ⟨Nat.lt_of_lt_of_le hb HF.out.size, hfar.out b hb⟩) ((sByte).keep (fun p hp => HF.out.cell hp) (Hnr.out i x hx))
            case c4 => have := Hlen.out; have q := HTb.out.2; unfold maxLen; unfold lim at q; omega
            case c5 => exact Nat.le_trans (Nat.mul_le_mul_right _ Hlen.out) HTb.out.1
            case c6 => exact HF.out.size
            · intro v' w3 ho3 hg3 hge3
              have HO3 : Hid (Own 1 eByte w3 w.heap.size 5 v' (ls.take (j + 1)).flatten) := by rw [HT2.out]; exact ho3
              have HF3 : Hid (Below w.heap.size w w3) := HF.out.grown hg3 HF.out.size hge3
              clear ho3 hg3 hge3
              go_wp2
              go_roundw
              case rel => exact ⟨j + 1, by omega, by go_num, HO3, HF3⟩
              case measure => simp [intOf]; omega
        · obtain rfl : j = k := by omega
          rw [ht.out] at HO
          go_wp2_with fail
          go_ret
          exact ⟨_, rfl, HO.out, HF.out⟩
end Go.Proofs.Ytnfjghldcopaaaa
namespace Go.Proofs.Ytnfjghldcopaaaa
set_option maxRecDepth 100000
open Go.RowKit

set_option maxHeartbeats 400000 in
theorem cloneSyms_any (w : World) (A : Option Addr) (n c : Nat) (l : List Sm) (h : Sl 2 eSm w (LT w.heap.size) A n l) (hm : n * 32 ≤ lim) :
    Calls Try.prog 38 #[.slice A n c] w fun e w' => ∃ v, e = .returned v ∧ Own 2 eSm w' w.heap.size 53 v l ∧ Fr w w' := by
  have hm2 := hm
  unfold lim at hm2
  cases A with
  | none =>
    have hn : n = 0 := by
      rcases Nat.eq_zero_or_pos n with h0 | h0
      · exact h0
      · obtain ⟨ad, e, _⟩ := h.2 h0; cases e
    have hl : l = [] := List.eq_nil_of_length_eq_zero (by rw [h.1]; exact hn)
    subst hl
    subst hn
    have hnil := fun (W : World) => Lib.run_eql_slice_nil (P := Try.prog) W 50 _ Option.none 0 c 0 0 Try.underlying50
    clear h
    go_enter Try.func38, Try.ntmps38
    go_wp2_with fail
    go_ret
    exact ⟨_, rfl, Own.nil, Below.refl _ _⟩
  | some ad =>
    have hnil := fun (W : World) => Lib.run_eql_slice_nil (P := Try.prog) W 50 _ (some ad) n c 0 0 Try.underlying50
    simp only [Option.isNone_some] at hnil
    obtain ⟨cs, hcl, hcc, hc1, hcr⟩ : ∃ cs : List Value, cs.length = n * 2 ∧ (∀ j u, cs[j]? = some u → w.cell? (ad.add j) = some u ∧ ad.block < w.heap.size) ∧ (∀ u ∈ cs, u.oneCell' = true) ∧ ∀ i x, l[i]? = some x → eSm w (LT w.heap.size) (fun j => cs[i * 2 + j]?) x := by
      rcases Nat.eq_zero_or_pos n with h0 | h0
      · have hl : l = [] := List.eq_nil_of_length_eq_zero (by rw [h.1]; exact h0)
        exact ⟨[], by simp [h0], fun j u hu => by simp at hu, fun u hu => by simp at hu, fun i x hx => by simp [hl] at hx⟩
      · obtain ⟨ad', e, hE⟩ := h.els h0
        injection e with e
        subst e
        obtain ⟨cs, k1, k2, k3, k4⟩ := hE.cells fSm sSm (by decide)
        exact ⟨cs, k1, fun j u hu => ⟨k2 j u hu, hE.2.1⟩, k3, k4⟩
    have hll := h.1
    (have H := Lib.hid h; clear h; have Hcl := Lib.hid hcl; clear hcl; have Hcc := Lib.hid hcc; clear hcc; have Hc1 := Lib.hid hc1; clear hc1; have Hcr := Lib.hid hcr; clear hcr; have Hll := Lib.hid hll; clear hll)
    go_enter Try.func38, Try.ntmps38
    go_wp2_with (at_builtin; refine wpList_apps _ rfl _ _ 50 rfl w.heap.size 53 _ _ _ Try.underlying50 infoSym rfl (by decide) sSm _ ([] : List Sm) rfl (Own.empty (Nat.le_refl _)) ad n c cs rfl Hcl.out ?c1 Hc1.out l Hll.out ?c3 ?c4 ?c5 ?c6 ?_)
    case c1 => intro j u hu; obtain ⟨k1, k2⟩ := Hcc.out j u hu; exact ((frAlloc w _).cell (by rw [block_of_add]; exact k2)).trans k1
    case c3 =>
      intro i x hx
      refine (sSm).more (S := LT w.heap.size) (fun b hb => ?_) ((sSm).keep (fun p hp => (frAlloc w _).cell hp) (Hcr.out i x hx))
      have hb' : b < w.heap.size := hb
      refine ⟨by simp; omega, ?_⟩
      intro e
      have e2 : some w.heap.size = some b := e
      have : w.heap.size = b := by injection e2
      omega
    case c4 => unfold maxLen; simp; omega
    case c5 => unfold lim; simp; omega
    case c6 => simp
    · intro v' w1 hown hg hge
      have HO : Hid (Own 2 eSm w1 w.heap.size 53 v' l) := hown
      have HF : Hid (Fr w w1) := (frAlloc w _).grown hg (by simp) hge
      clear hown hg hge
      go_wp2_with fail
      go_ret
      exact ⟨v', rfl, HO.out, HF.out⟩
theorem growSyms_nil (w : World) (n : Nat) (hm : n * 32 ≤ lim) (h63 : n ≤ lim) :
    Calls Try.prog 74 #[.slice none 0 0, .int .i64 n] w fun e w' => ∃ v, e = .returned v ∧ Own 2 eSm w' w.heap.size 53 v ([] : List (Sm)) ∧ Fr w w' := by
  obtain ⟨i0, hi0, hi1⟩ := Option.map_eq_some_iff.1 infoSym
  simp only [Prod.mk.injEq] at hi1
  obtain ⟨hz0, hz1, hz2⟩ := hi1
  unfold lim at h63 hm
  have h1 : ¬ ((n : Int) < 0) := by omega
  by_cases h0 : n = 0
  · subst h0
    clear hi0 hz0 hz1 hz2
    go_enter Try.func74, Try.ntmps74
    go_wp2
    go_ret
    exact ⟨_, rfl, Own.nil, Below.refl _ _⟩
  · have h4 : (n : Int) > 0 := by omega
    obtain ⟨G, hG⟩ : ∃ G, G = grownCap w n 0 53 := ⟨_, rfl⟩
    obtain ⟨cur, hcur⟩ : ∃ cur, cur = Builtin.zeroCells ((.agg #[.int .i64 0, .slice none 0 0]) : Value).cells n ++ Builtin.zeroCells ((.agg #[.int .i64 0, .slice none 0 0]) : Value).cells (G - n) := ⟨_, rfl⟩
    have hge := grownCap_ge w n 0 53
    have hle := grownCap_le_maxLen w n 0 53 (by unfold maxLen; omega)
    rw [← hG] at hge hle
    have hcs : cur.size = G * 2 := by
      rw [hcur, Array.size_append, size_zeroCells, size_zeroCells, ← Nat.add_mul]
      show (n + (G - n)) * 2 = G * 2
      congr 1; omega
    have hrz : Hid (∀ ty, (Builtin.append_ #[50, 3] ty #[.slice none 0 0, .int .i64 (n : Int)]).run Try.prog w = .ok (.slice (some ⟨w.heap.size, 0, none⟩) n G) (w.drew.alloc (.cells cur 53))) := fun ty => by
      have h := Lib.run_append_grow_zeros (P := Try.prog) w 50 3 ty 53 i0 (.agg #[.int .i64 0, .slice none 0 0]) .i64 .i64 Try.underlying50 Try.underlying3 hi0 hz0 Option.none 0 0 [] (run_firstCells_none w.drew i0.size 0 0 0) n (by omega) (by rw [hz1]; decide) (by omega) (by omega)
        (by rw [hz2]; omega) (by rw [hz2, Nat.zero_add]; exact growslice_fits (by omega) (by omega))
      rw [Nat.zero_add] at h
      rw [h, hcur, hG]
      simp
    have HO : Hid (Own 2 eSm (w.drew.alloc (.cells cur 53)) w.heap.size 53 (.slice (some ⟨w.heap.size, 0, none⟩) 0 G) ([] : List (Sm))) :=
      ⟨[], ⟨by simp, .inr ⟨w.heap.size, G, cur, rfl, Nat.le_refl _, heap_alloc_new w.drew _, Nat.zero_le _, hle, hcs, by simp⟩⟩, fun i x h => by simp at h⟩
    clear hG hcur hle hcs hi0 hz0 hz1 hz2
    go_enter Try.func74, Try.ntmps74
    go_wp2_with (at_builtin; refine Lib.wpList_append_run _ rfl _ _ _ _ rfl _ _ rfl rfl _ _ (hrz.out _) ?_)
    go_ret
    exact ⟨_, rfl, HO.out, (Below.refl _ _).drew.alloc (Nat.le_refl _) _⟩

set_option maxHeartbeats 1000000 in
theorem concatSyms_any (w : World) (A : Option Addr) (n c : Nat) (ls : List (List (Sm))) (h : Sl 1 (eSl 2 32 eSm) w (LT w.heap.size) A n ls) (hm : n ≤ lim) (hs : lens ls * 32 ≤ lim) (hs1 : lens ls ≤ lim) :
    Calls Try.prog 40 #[.slice A n c] w fun e w' => ∃ v, e = .returned v ∧ Own 2 eSm w' w.heap.size 53 v ls.flatten ∧ Fr w w' := by
  obtain ⟨i0, hi0, _⟩ := Option.map_eq_some_iff.1 infoSym
  have hm1 := hm
  have hs2 := hs1
  unfold lim at hm1 hs2
  (have H := Lib.hid h; clear h; have Hi0 := Lib.hid hi0; clear hi0)
  go_enter Try.func40, Try.ntmps40
  go_wp2_with fail
  go_loop [3, 11] (fun s i => ∃ k : Nat, k ≤ n ∧ i = .int .i64 k ∧ s = .int .i64 (lens (ls.take k) : Nat)) (fun _ i => n - (intOf i).toNat)
  case atStart => exact ⟨0, Nat.zero_le _, rfl, by simp [lens]⟩
  case round =>
    obtain ⟨k, hk, rfl, rfl⟩ := hrel
    by_cases hlt : k < n
    · obtain ⟨ad, rfl, hE⟩ := H.out.els (by omega)
      obtain ⟨A', n', c', l, hl, hcl, hm', hc1, hc2, hsl⟩ := hE.slC hlt
      have h1 := lens_take_succ hl
      have h2 := lens_take_le ls (k + 1)
      rw [hsl.1] at h1
      obtain ⟨a, ha⟩ : ∃ a, a = lens (ls.take k) := ⟨_, rfl⟩
      obtain ⟨b, hb⟩ : ∃ b, b = lens (ls.take (k + 1)) := ⟨_, rfl⟩
      rw [← ha] at h1 ⊢
      rw [← hb] at h1 h2
      have hab : a + n' ≤ 140737488355328 := by omega
      have hneg : ¬ ((a : Int) + (n' : Int) < 0) := by omega
      have HB : Hid (b = a + n') := h1
      have HB2 := Lib.hid hb
      clear hl hsl h1 ha hb
      go_wp2_with fail
      go_round
      case rel => exact ⟨k + 1, by omega, by go_num, by rw [← HB2.out, HB.out]; go_num⟩
      case measure => simp [intOf]; omega
    · obtain rfl : k = n := by omega
      have ht : Hid (ls.take k = ls) := List.take_of_length_le (by rw [H.out.1]; exact Nat.le_refl _)
      rw [ht.out]
      obtain ⟨T, hT⟩ : ∃ T, T = lens ls := ⟨_, rfl⟩
      rw [← hT] at hs hs1 ⊢
      (have HT := Lib.hid hT; clear hT)
      go_wp2_with fail
      (with_reducible refine (growSyms_nil _ T hs hs1).mono ?_)
      rintro e w1 ⟨v1, rfl, ho1, hf1⟩
      (have Ho1 := Lib.hid ho1; clear ho1; have Hf1 := Lib.hid hf1; clear hf1)
      go_wp2_with fail
      go_loopw [6, 27] (fun v i wr => ∃ j : Nat, j ≤ k ∧ i = .int .i64 j ∧ Hid (Own 2 eSm wr w.heap.size 53 v (ls.take j).flatten) ∧ Hid (Below w.heap.size w wr)) (fun _ i _ => k - (intOf i).toNat)
      case atStart => exact ⟨0, Nat.zero_le _, rfl, Ho1, Hf1⟩
      case round =>
        obtain ⟨j, hj, rfl, HO, HF⟩ := hrel
        by_cases hlt2 : j < k
        · obtain ⟨ad, rfl, hE⟩ := H.out.els (by omega)
          obtain ⟨A', n', c', l, hl, hcl, hm', hc1, hc2, hsl⟩ := hE.slC hlt2
          have hcw : wr.cell? (ad.add j) = some (.slice A' n' c') := (HF.out.cell (p := ad.add j) (by rw [block_of_add]; exact hE.2.1)).trans hcl
          have Hlen : Hid ((ls.take j).flatten.length + n' ≤ T) := by
            have h1 := lens_take_succ hl
            have h2 := lens_take_le ls (j + 1)
            rw [hsl.1] at h1
            have := HT.out
            rw [Hid, length_flatten_lens]; omega
          have HT2 : Hid ((ls.take (j + 1)).flatten = (ls.take j).flatten ++ l) := by rw [Hid, take_snoc' hl, List.flatten_append]; simp
          have HTb : Hid (T * 32 ≤ lim ∧ T ≤ lim) := ⟨hs, hs1⟩
          cases A' with
          | none =>
            have hn0 : n' = 0 := by
              rcases Nat.eq_zero_or_pos n' with h0 | h0
              · exact h0
              · obtain ⟨ad', e, _⟩ := hsl.2 h0; cases e
            subst hn0
            have hl0 : l = [] := List.eq_nil_of_length_eq_zero hsl.1
            subst hl0
            have HO3 : Hid (Own 2 eSm wr w.heap.size 53 u6 (ls.take (j + 1)).flatten) := by rw [HT2.out, List.append_nil]; exact HO.out
            clear hl hcl hsl
            go_wp2_with (at_builtin; refine wpList_apps_nil _ rfl _ _ 50 rfl w.heap.size 53 i0 Try.underlying50 Hi0.out _ _ c' rfl HO.out rfl ?_)
            go_roundw
            case rel => exact ⟨j + 1, by omega, by go_num, HO3, HF⟩
            case measure => simp [intOf]; omega
          | some adb =>
            obtain ⟨news, hnl, hnc, hn1, hnr⟩ : ∃ news : List Value, news.length = n' * 2 ∧ (∀ j u, news[j]? = some u → w.cell? (adb.add j) = some u ∧ adb.block < w.heap.size) ∧ (∀ u ∈ news, u.oneCell' = true) ∧ ∀ i x, l[i]? = some x → eSm w (LT w.heap.size) (fun j => news[i * 2 + j]?) x := by
              rcases Nat.eq_zero_or_pos n' with h0 | h0
              · have hl0 : l = [] := List.eq_nil_of_length_eq_zero (by rw [hsl.1]; exact h0)
                exact ⟨[], by simp [h0], fun j u hu => by simp at hu, fun u hu => by simp at hu, fun i x hx => by simp [hl0] at hx⟩
              · obtain ⟨ad', e, hE'⟩ := hsl.els h0
                injection e with e
                subst e
                obtain ⟨cs, k1, k2, k3, k4⟩ := hE'.cells fSm sSm (by decide)
                exact ⟨cs, k1, fun j u hu => ⟨k2 j u hu, hE'.2.1⟩, k3, k4⟩
            have hll := hsl.1
            have hfar : Hid (∀ b, b < w.heap.size → u6.ownBlock ≠ some b) := fun b hb => HO.out.far hb
            clear hl hcl hsl
            (have Hnl := Lib.hid hnl; clear hnl; have Hnc := Lib.hid hnc; clear hnc; have Hn1 := Lib.hid hn1; clear hn1; have Hnr := Lib.hid hnr; clear hnr; have Hll := Lib.hid hll; clear hll)
            go_wp2_with (at_builtin; refine wpList_apps _ rfl _ _ 50 rfl w.heap.size 53 _ _ _ Try.underlying50 infoSym rfl (by decide) sSm _ (ls.take j).flatten rfl HO.out adb n' c' news rfl Hnl.out ?c1 Hn1.out l Hll.out ?c3 ?c4 ?c5 ?c6 ?_)
            case c1 => intro i u hu; obtain ⟨k1, k2⟩ := Hnc.out i u hu; exact (HF.out.cell (by rw [block_of_add]; exact k2)).trans k1
            case c3 =>
              intro i x hx
              exact (sSm).more (S := LT w.heap.size) (fun b hb => ⟨Nat.lt_of_lt_of_le hb HF.out.size, hfar.out b hb⟩) ((sSm).keep (fun p hp => HF.out.cell hp) (Hnr.out i x hx))
            case c4 => have := Hlen.out; have q := HTb.out.2; unfold maxLen; unfold lim at q; omega
            case c5 => exact Nat.le_trans (Nat.mul_le_mul_right _ Hlen.out) HTb.out.1
            case c6 => exact HF.out.size
            · intro v' w3 ho3 hg3 hge3
              have HO3 : Hid (Own 2 eSm w3 w.heap.size 53 v' (ls.take (j + 1)).flatten) := by rw [HT2.out]; exact ho3
              have HF3 : Hid (Below w.heap.size w w3) := HF.out.grown hg3 HF.out.size hge3
              clear ho3 hg3 hge3
              go_wp2
              go_roundw
              case rel => exact ⟨j + 1, by omega, by go_num, HO3, HF3⟩
              case measure => simp [intOf]; omega
        · obtain rfl : j = k := by omega
          rw [ht.out] at HO
          go_wp2_with fail
          go_ret
          exact ⟨_, rfl, HO.out, HF.out⟩
end Go.Proofs.Ytnfjghldcopaaaa
namespace Go.Proofs.Ytnfjghldcopaaaa
open Go.RowKit

theorem concatSyms2 (w : World) (g : Nat) (A A' : Option Addr) (n c n' c' : Nat) (t : TypeId) (xs ys : List Sm) (hg : w.heap[g]? = some (.cells #[.slice A n c, .slice A' n' c'] t (0, 0))) (h : Sl 2 eSm w (LT w.heap.size) A n xs) (h' : Sl 2 eSm w (LT w.heap.size) A' n' ys) (hn : n ≤ 60 ∧ n ≤ c ∧ c ≤ maxLen) (hn' : n' ≤ 60 ∧ n' ≤ c' ∧ c' ≤ maxLen) :
    Calls Try.prog 40 #[.slice (some ⟨g, 0, none⟩) 2 2] w fun e w' => ∃ A9 c9, e = .returned (.slice A9 (xs ++ ys).length c9) ∧ ((xs ++ ys).length ≤ c9 ∧ c9 ≤ maxLen) ∧ Sl 2 eSm w' (LT w'.heap.size) A9 (xs ++ ys).length (xs ++ ys) ∧ Fr w w' := by
  have hgl := (Array.getElem?_eq_some_iff.1 hg).1
  have hS : Sl 1 (eSl 2 32 eSm) w (LT w.heap.size) (some ⟨g, 0, none⟩) 2 [xs, ys] := by
    refine ⟨rfl, fun _ => ⟨_, rfl, hgl, fun i x hx => ?_⟩⟩
    match i, hx with
    | 0, hx =>
      obtain rfl : xs = x := by simpa using hx
      exact ⟨A, n, c, by show w.cell? (Addr.add ⟨g, 0, none⟩ _) = _; rw [zero_add_addr, cell_of_heap hg]; rfl, ⟨by unfold lim; omega, hn.2⟩, h⟩
    | 1, hx =>
      obtain rfl : ys = x := by simpa using hx
      exact ⟨A', n', c', by show w.cell? (Addr.add ⟨g, 0, none⟩ _) = _; rw [zero_add_addr, cell_of_heap hg]; rfl, ⟨by unfold lim; omega, hn'.2⟩, h'⟩
    | i + 2, hx => simp at hx
  have hl := h.1
  have hl' := h'.1
  have hlen : lens [xs, ys] = n + n' := by simp [lens, hl, hl']
  refine (concatSyms_any w _ 2 2 [xs, ys] hS (by unfold lim; omega) (by rw [hlen]; unfold lim; omega) (by rw [hlen]; unfold lim; omega)).mono ?_
  rintro e w' ⟨v, rfl, ho, hf⟩
  obtain ⟨A9, c9, rfl, hc, hs⟩ := ho.slC sSm (by decide)
  have ef : [xs, ys].flatten = xs ++ ys := by simp
  rw [ef] at hc hs ⊢
  exact ⟨A9, c9, rfl, hc, hs, hf⟩
end Go.Proofs.Ytnfjghldcopaaaa
namespace Go.Proofs.Ytnfjghldcopaaaa
open Go.RowKit

/-- What is known of a block, as its cell. -/
def KnV (K : Nat) (w : World) (S : Nat → Prop) (v : Value) (x : Option (List UInt8)) : Prop :=
  (x = none ∧ v = .slice none 0 0) ∨ ∃ l ad c, x = some l ∧ v = .slice (some ad) K c ∧ (K ≤ c ∧ c ≤ 16) ∧ Sl 1 eByte w S (some ad) K l
theorem KnV.chg {K : Nat} {w w' : World} {S T : Nat → Prop} {v : Value} {x : Option (List UInt8)} (h : KnV K w S v x) (k : Chg T w w') (hd : ∀ b, S b → b < w.heap.size ∧ ¬ T b) : KnV K w' S v x := by
  rcases h with h | ⟨l, ad, c, h1, h2, h3, h4⟩
  · exact .inl h
  · exact .inr ⟨l, ad, c, h1, h2, h3, h4.chg sByte k hd⟩
theorem KnV.more {K : Nat} {w : World} {S T : Nat → Prop} {v : Value} {x : Option (List UInt8)} (h : KnV K w S v x) (hd : ∀ b, S b → T b) : KnV K w T v x := by
  rcases h with h | ⟨l, ad, c, h1, h2, h3, h4⟩
  · exact .inl h
  · exact .inr ⟨l, ad, c, h1, h2, h3, h4.more sByte hd⟩
/-- What is known, as a row of cells. -/
def KnM (K : Nat) (w : World) (S : Nat → Prop) (g : Nat) (kn : Kn) : Prop :=
  ∃ vs : List Value, w.heap[g]? = some (.cells vs.toArray 27 (0, 0)) ∧ vs.length = kn.length ∧ ∀ (i : Nat) (x : Option (List UInt8)), kn[i]? = some x → ∃ v, vs[i]? = some v ∧ KnV K w S v x
theorem KnM.lt {K : Nat} {w : World} {S : Nat → Prop} {g : Nat} {kn : Kn} (h : KnM K w S g kn) : g < w.heap.size := by
  obtain ⟨vs, h, _⟩ := h
  exact (Array.getElem?_eq_some_iff.1 h).1
theorem KnM.chg {K : Nat} {w w' : World} {S T : Nat → Prop} {g : Nat} {kn : Kn} (h : KnM K w S g kn) (k : Chg T w w') (hg : ¬ T g) (hd : ∀ b, S b → b < w.heap.size ∧ ¬ T b) : KnM K w' S g kn := by
  obtain ⟨vs, h1, h2, h3⟩ := h
  exact ⟨vs, k.blk h1 hg, h2, fun i x hx => by obtain ⟨v, hv, hk⟩ := h3 i x hx; exact ⟨v, hv, hk.chg k hd⟩⟩
theorem KnM.fr {K : Nat} {w w' : World} {S : Nat → Prop} {g : Nat} {kn : Kn} (h : KnM K w S g kn) (k : Fr w w') (hd : ∀ b, S b → b < w.heap.size) : KnM K w' S g kn :=
  h.chg (T := fun _ => False) k.chg (fun e => e) fun b hb => ⟨hd b hb, fun e => e⟩
theorem KnM.more {K : Nat} {w : World} {S T : Nat → Prop} {g : Nat} {kn : Kn} (h : KnM K w S g kn) (hd : ∀ b, S b → T b) : KnM K w T g kn := by
  obtain ⟨vs, h1, h2, h3⟩ := h
  exact ⟨vs, h1, h2, fun i x hx => by obtain ⟨v, hv, hk⟩ := h3 i x hx; exact ⟨v, hv, hk.more hd⟩⟩
theorem KnM.free {K : Nat} {w : World} {S : Nat → Prop} {g i : Nat} {kn : Kn} (h : KnM K w S g kn) : w.frozen? ⟨g, i, none⟩ = false := by
  obtain ⟨vs, h, _⟩ := h
  exact blk_free h
theorem KnM.get {K : Nat} {w : World} {S : Nat → Prop} {g i : Nat} {kn : Kn} (h : KnM K w S g kn) (hi : i < kn.length) : ∃ x v, kn[i]? = some x ∧ w.cell? ⟨g, i, none⟩ = some v ∧ KnV K w S v x := by
  obtain ⟨vs, h1, h2, h3⟩ := h
  obtain ⟨v, hv, hk⟩ := h3 i _ (List.getElem?_eq_getElem hi)
  exact ⟨_, v, List.getElem?_eq_getElem hi, by rw [cell_of_heap h1, List.getElem?_toArray]; exact hv, hk⟩
theorem KnM.set {K : Nat} {w : World} {S : Nat → Prop} {g i c : Nat} {ad : Addr} {l : List UInt8} {kn : Kn} (h : KnM K w S g kn) (hS : ¬ S g) (hi : i < kn.length) (hc : K ≤ c ∧ c ≤ 16) (hl : Sl 1 eByte w S (some ad) K l) :
    KnM K (w.setCell ⟨g, i, none⟩ (.slice (some ad) K c)) S g (kn.set i (some l)) := by
  obtain ⟨vs, h1, h2, h3⟩ := h
  have hk : ∀ p : Addr, S p.block → (w.setCell ⟨g, i, none⟩ (.slice (some ad) K c)).cell? p = w.cell? p := fun p hp => World.cell?_setCell_other w _ p _ fun e => by subst e; exact hS hp
  refine ⟨vs.set i (.slice (some ad) K c), ?_, by simp [h2], fun j x hx => ?_⟩
  · simp [World.setCell, Array.getElem?_modify, h1]
  · rw [List.getElem?_set] at hx
    split at hx
    · rename_i e
      subst e
      injection hx with hx
      exact ⟨_, List.getElem?_set_self (by omega), .inr ⟨l, ad, c, hx.symm, rfl, hc, hl.keep sByte hk⟩⟩
    · rename_i e
      obtain ⟨v, hv, hkv⟩ := h3 j x hx
      refine ⟨v, by rw [List.getElem?_set_ne e]; exact hv, ?_⟩
      rcases hkv with h | ⟨l', ad', c', q1, q2, q3, q4⟩
      · exact .inl h
      · exact .inr ⟨l', ad', c', q1, q2, q3, q4.keep sByte hk⟩

/-- 's == nil'. -/
theorem wpList_nil {P : Program} {w : World} {ops : Array Oper} {rest : List Oper} {o : Oper} {a : Act} {Q : Exit → Act → World → Prop} (hw : Region.wanted o (yielded ops a.tmps) = true) (s : Operand) (t t' e : TypeId) (ho : o.op = .binOp .eql t s (.const (.slice none 0 0)) t') (ht : P.underlying t = some (.slice e)) {A : Option Addr} {n c : Nat} (hs : a.eval s = .slice A n c) (x : Bool) (hx : A.isNone = x)
    (h : wpList P ops Q rest (a.put o.dst (.bool x)) w) : wpList P ops Q (o :: rest) a w := by
  refine wpList_step fun K hK => ?_
  rw [if_pos hw]
  have h1 : a.eval (.const (.slice none 0 0)) = .slice none 0 0 := rfl
  have h2 : (eqGuard .eql t s (.const (.slice none 0 0)) (.slice A n c) (.slice none 0 0)) = pure () := rfl
  have h3 : (binOp .eql t (.slice A n c) (.slice none 0 0)).run P w = .ok (.bool A.isNone) w := run_eql_slice_nil w t e A n c ht
  unfold Oper.wp execOp
  simp only [ho]
  rw [hs, h1, h2]
  simp only [Sem.run_bind, Sem.run_pure, Result.andThen_ok, h3]
  subst hx
  exact hK _ _ h

/-- 's != nil'. -/
theorem wpList_nnil {P : Program} {w : World} {ops : Array Oper} {rest : List Oper} {o : Oper} {a : Act} {Q : Exit → Act → World → Prop} (hw : Region.wanted o (yielded ops a.tmps) = true) (s : Operand) (t t' e : TypeId) (ho : o.op = .binOp .neq t s (.const (.slice none 0 0)) t') (ht : P.underlying t = some (.slice e)) {A : Option Addr} {n c : Nat} (hs : a.eval s = .slice A n c) (x : Bool) (hx : (!A.isNone) = x)
    (h : wpList P ops Q rest (a.put o.dst (.bool x)) w) : wpList P ops Q (o :: rest) a w := by
  refine wpList_step fun K hK => ?_
  rw [if_pos hw]
  have h1 : a.eval (.const (.slice none 0 0)) = .slice none 0 0 := rfl
  have h2 : (eqGuard .neq t s (.const (.slice none 0 0)) (.slice A n c) (.slice none 0 0)) = pure () := rfl
  have h3 : (binOp .neq t (.slice A n c) (.slice none 0 0)).run P w = .ok (.bool (!A.isNone)) w := run_neq_slice_nil w t e A n c ht
  unfold Oper.wp execOp
  simp only [ho]
  rw [hs, h1, h2]
  simp only [Sem.run_bind, Sem.run_pure, Result.andThen_ok, h3]
  subst hx
  exact hK _ _ h

section
variable {α : Type} {size : Nat} {r : ERd α}
theorem eLow_iff {N : Nat} {w : World} {S : Nat → Prop} {f : Nat → Option Value} {x : α} : eLow N r w S f x ↔ r w (fun b => S b ∧ b < N) f x := Iff.rfl
/-- A store between turns nothing of an own slice whose elements lie below. -/
theorem Own.lowChg {N base : Nat} {w w' : World} {e : TypeId} {v : Value} {xs : List α} {T : Nat → Prop} (s : Stable size r) (h : Own size (eLow N r) w base e v xs) (k : Chg T w w') (hT : ∀ b, T b → N ≤ b ∧ b < base) : Own size (eLow N r) w' base e v xs := by
  obtain ⟨cs, ho, hr⟩ := h
  refine ⟨cs, ⟨ho.1, ?_⟩, fun i x hx => ?_⟩
  · rcases ho.2 with h0 | ⟨g, cap, cur, h1, h2, h3, h4⟩
    · exact .inl h0
    · exact .inr ⟨g, cap, cur, h1, h2, k.blk h3 (fun e => by have := hT g e; omega), h4⟩
  · exact s.more (fun b hb => ⟨⟨Nat.lt_of_lt_of_le hb.1.1 k.size, hb.1.2⟩, hb.2⟩) (s.keep (fun p hp => k.cell hp.1.1 fun e => by have := hT _ e; have := hp.2; omega) (hr i x hx))
/-- It reads as a list, off what lies below and what is its own. -/
theorem Own.lowOut {N base : Nat} {w : World} {e : TypeId} {v : Value} {xs : List α} (s : Stable size r) (h : Own size (eLow N r) w base e v xs) : ∃ A c, v = .slice A xs.length c ∧ (xs.length ≤ c ∧ c ≤ maxLen) ∧ Sl size (eLow N r) w (fun b => b < w.heap.size ∧ (b < N ∨ base ≤ b)) A xs.length xs := by
  obtain ⟨cs, ho, hr⟩ := h
  rcases ho.2 with ⟨rfl, h0⟩ | ⟨g, cap, cur, rfl, hbg, hg, hnc, hcm, hcs, htake⟩
  · exact ⟨none, 0, by rw [h0], ⟨by omega, by unfold maxLen; omega⟩, rfl, fun hn => by omega⟩
  · refine ⟨some ⟨g, 0, none⟩, cap, rfl, ⟨hnc, hcm⟩, rfl, fun hn => ⟨_, rfl, ⟨(Array.getElem?_eq_some_iff.1 hg).1, .inr hbg⟩, fun i x hx => ?_⟩⟩
    refine s.mono (fun j u hj hu => ?_) (s.more (fun b hb => ⟨⟨hb.1.1, .inl hb.2⟩, hb.2⟩) (hr i x hx))
    rw [zero_add_addr, cell_of_heap hg]
    rw [← htake, List.getElem?_take] at hu
    split at hu
    · simpa using hu
    · cases hu
theorem Own.lt {base : Nat} {w : World} {e : TypeId} {v : Value} {xs : List α} (h : Own size r w base e v xs) {b : Nat} (hb : v.ownBlock = some b) : base ≤ b ∧ b < w.heap.size := by
  obtain ⟨cs, ho, _⟩ := h
  exact ho.lt b hb
theorem Own.isSl {base : Nat} {w : World} {e : TypeId} {v : Value} {xs : List α} (h : Own size r w base e v xs) : ∃ A n c, v = .slice A n c := by
  obtain ⟨cs, ho, _⟩ := h
  rcases ho.2 with ⟨h0, _⟩ | ⟨g, cap, cur, h0, _⟩
  · exact ⟨_, _, _, h0⟩
  · exact ⟨_, _, _, h0⟩
/-- One element laid alone. -/
theorem own_one {base : Nat} {w : World} {e : TypeId} {b : Nat} {vs : List Value} {y : α} (s : Stable size r) (hb : base ≤ b) (h : w.heap[b]? = some (.cells vs.toArray e (0, 0))) (hl : vs.length = size) (hy : r w (fun x => x < w.heap.size ∧ x ≠ b) (fun j => vs[j]?) y) :
    Own size r w base e (.slice (some ⟨b, 0, none⟩) 1 1) [y] := by
  refine ⟨vs, ⟨by simp [hl], .inr ⟨b, 1, vs.toArray, by simp, hb, h, by simp, by unfold maxLen; omega, by simp [hl], by simp [← hl]⟩⟩, fun i x hx => ?_⟩
  obtain rfl : i = 0 := by have := (List.getElem?_eq_some_iff.1 hx).1; simp at this; omega
  obtain rfl : y = x := by simpa using hx
  simp only [Nat.zero_mul, Nat.zero_add]
  exact s.more (fun x hx => ⟨hx.1, fun e => hx.2 (by simp [Value.ownBlock] at e; exact e.symm)⟩) hy

theorem app_o {P : Program} {W0 W1 : World} {base e b t ty : TypeId} {news : List Value} {te : TypeId} {v : Value} {xs : List α} {y : α} {fr : Nat × Nat} {i : TypeInfo} {z : Value} {bytes : Nat} (st : Stable size r) (ht : P.underlying t = some (.slice e)) (hi1 : P.info? e = some i) (hi2 : i.zero = some z) (hi3 : i.size = size) (hi4 : i.bytes = bytes)
    (hzs : z.cells.size = size) (hsz : 0 < size) (hown : Own size r W0 base e v xs) (hf : Fr W0 W1) (hblk : W1.heap[b]? = some (.cells news.toArray te fr)) (hl : news.length = size) (h1 : ∀ u ∈ news, u.oneCell' = true)
    (hy : r W0 (fun b => b < W0.heap.size ∧ v.ownBlock ≠ some b) (fun j => news[j]?) y) (h63 : xs.length + 1 ≤ maxLen) (hbytes : (xs.length + 1) * bytes ≤ lim) (hbase : base ≤ W0.heap.size) :
    ∃ v' w', (Builtin.append_ #[t, t] ty #[v, .slice (some ⟨b, 0, none⟩) 1 1]).run P W1 = .ok v' w' ∧ Own size r w' base e v' (xs ++ [y]) ∧ Chg (fun k => v.ownBlock = some k) W0 w' ∧ ∀ k, v'.ownBlock = some k → v.ownBlock = some k ∨ W0.heap.size ≤ k := by
  obtain ⟨q1, q2, q3⟩ := app1_pre (P := P) st hown hf hblk hl hy
  obtain ⟨cs, hrow, hr⟩ := q1
  obtain ⟨v', w', hrun, g2, g3, g4, g5⟩ := run_append_own_at (P := P) W1 base t ty e i z size bytes ht hi1 hi2 hi3 hi4 hzs hsz v xs.length cs hrow ⟨b, 0, none⟩ 1 1 news (by rw [Nat.one_mul]; exact hl) q2 h1 h63 hbytes (Nat.le_trans hbase hf.size)
  have hg : Chg (fun k => v.ownBlock = some k) W1 w' := ⟨g3.os, g3.tape, g3.output, g3.size, fun k hk hs => g3.block k hk fun e => hs e.symm⟩
  refine ⟨v', w', hrun, own_apps st hr hrow.1 rfl q3 g2 g3 g5, hf.chg.trans hg, fun k hk => ?_⟩
  rcases g5 with g5 | g5
  · exact .inl (g5.symm.trans hk)
  · rw [g5] at hk
    injection hk with hk
    exact .inr (by rw [← hk]; exact hf.size)
/-- 'append(v, y)' as wpList_app1 has it; and where what is new lies. -/
theorem wpList_app1o {P : Program} {W1 : World} {ops : Array Oper} {rest : List Oper} {o : Oper} {a : Act} {Q : Exit → Act → World → Prop} (hgd : o.guard = none) (s x : Operand) (t : TypeId)
    (ho : o.op = .call { callee := .builtin .append, args := #[s, x], argTypes := #[t, t] })
    (base : Nat) (e : TypeId) (z : Value) (bytes : Nat) (ht : P.underlying t = some (.slice e)) (hi : (P.info? e).map (fun i => (i.zero, i.size, i.bytes)) = some (some z, size, bytes))
    (hzs : z.cells.size = size) (hsz : 0 < size) (st : Stable size r)
    (W0 : World) (hf : Fr W0 W1) (v : Value) (xs : List α) (hs : a.eval s = v) (hown : Own size r W0 base e v xs)
    (b : Nat) (news : List Value) (te : TypeId) (fr : Nat × Nat) (hx : a.eval x = .slice (some ⟨b, 0, none⟩) 1 1) (hblk : W1.heap[b]? = some (.cells news.toArray te fr)) (hl : news.length = size) (h1 : ∀ u ∈ news, u.oneCell' = true)
    (y : α) (hy : r W0 (fun b => b < W0.heap.size ∧ v.ownBlock ≠ some b) (fun j => news[j]?) y)
    (h63 : xs.length + 1 ≤ maxLen) (hbytes : (xs.length + 1) * bytes ≤ lim) (hbase : base ≤ W0.heap.size)
    (h : ∀ v' w', Hid (Own size r w' base e v' (xs ++ [y])) → Hid (Chg (fun k => v.ownBlock = some k) W0 w') → Hid (∀ k, v'.ownBlock = some k → v.ownBlock = some k ∨ W0.heap.size ≤ k) → wpList P ops Q rest (a.put o.dst v') w') : wpList P ops Q (o :: rest) a W1 := by
  obtain ⟨i, hi1, hi2⟩ := Option.map_eq_some_iff.1 hi
  simp only [Prod.mk.injEq] at hi2
  refine wpList_plain hgd fun K hK => ?_
  obtain ⟨v', w', hrun, k1, k2, k3⟩ := app_o (P := P) (ty := o.type) st ht hi1 hi2.1 hi2.2.1 hi2.2.2 hzs hsz hown hf hblk hl h1 hy h63 hbytes hbase
  unfold Oper.wp execOp
  simp only [ho, resolve, invoke, builtin, Sem.run_bind, Sem.run_pure, Result.andThen_ok, List.map_toArray, List.map_cons, List.map_nil, hs, hx, hrun]
  exact hK _ _ (h v' w' k1 k2 k3)
/-- The same as a step of a region that draws its order. -/
theorem step_app1o {P : Program} {W1 : World} {ops : Array Oper} {o : Oper} {a : Act} {K : Act → World → Prop} {Q : Exit → Act → World → Prop} {E : Prop} (hgd : o.guard = none) (s x : Operand) (t : TypeId)
    (ho : o.op = .call { callee := .builtin .append, args := #[s, x], argTypes := #[t, t] })
    (base : Nat) (e : TypeId) (z : Value) (bytes : Nat) (ht : P.underlying t = some (.slice e)) (hi : (P.info? e).map (fun i => (i.zero, i.size, i.bytes)) = some (some z, size, bytes))
    (hzs : z.cells.size = size) (hsz : 0 < size) (st : Stable size r)
    (W0 : World) (hf : Fr W0 W1) (v : Value) (xs : List α) (hs : a.eval s = v) (hown : Own size r W0 base e v xs)
    (b : Nat) (news : List Value) (te : TypeId) (fr : Nat × Nat) (hx : a.eval x = .slice (some ⟨b, 0, none⟩) 1 1) (hblk : W1.heap[b]? = some (.cells news.toArray te fr)) (hl : news.length = size) (h1 : ∀ u ∈ news, u.oneCell' = true)
    (y : α) (hy : r W0 (fun b => b < W0.heap.size ∧ v.ownBlock ≠ some b) (fun j => news[j]?) y)
    (h63 : xs.length + 1 ≤ maxLen) (hbytes : (xs.length + 1) * bytes ≤ lim) (hbase : base ≤ W0.heap.size)
    (h : ∀ v' w', Hid (Own size r w' base e v' (xs ++ [y])) → Hid (Chg (fun k => v.ownBlock = some k) W0 w') → Hid (∀ k, v'.ownBlock = some k → v.ownBlock = some k ∨ W0.heap.size ≤ k) → K (a.put o.dst v') w') :
    if Region.wanted o (yielded ops a.tmps) = true then Oper.wp P o a W1 K Q else E := by
  have hw : Region.wanted o (yielded ops a.tmps) = true := by simp [Region.wanted, hgd]
  rw [if_pos hw]
  obtain ⟨i, hi1, hi2⟩ := Option.map_eq_some_iff.1 hi
  simp only [Prod.mk.injEq] at hi2
  obtain ⟨v', w', hrun, k1, k2, k3⟩ := app_o (P := P) (ty := o.type) st ht hi1 hi2.1 hi2.2.1 hi2.2.2 hzs hsz hown hf hblk hl h1 hy h63 hbytes hbase
  unfold Oper.wp execOp
  simp only [ho, resolve, invoke, builtin, Sem.run_bind, Sem.run_pure, Result.andThen_ok, List.map_toArray, List.map_cons, List.map_nil, hs, hx, hrun]
  exact h v' w' k1 k2 k3
end
end Go.Proofs.Ytnfjghldcopaaaa
namespace Go.Proofs.Ytnfjghldcopaaaa
open Go.RowKit
attribute [local irreducible] wpList

theorem pRound_at {kn : Kn} {xs : List Sm} {i : Nat} {x : Sm} (h : xs[i]? = some x) : pRound kn (xs.drop i) = ((pRound (pOne kn x).1 (xs.drop (i + 1))).1, (pOne kn x).2.1 ++ (pRound (pOne kn x).1 (xs.drop (i + 1))).2.1, (pOne kn x).2.2 || (pRound (pOne kn x).1 (xs.drop (i + 1))).2.2) := by
  rw [drop_cons h]; rfl

theorem pRound_step {kn kn' k1 : Kn} {xs lf l1 : List Sm} {m m1 : Bool} {i : Nat} {x : Sm} (h : pRound kn xs = ((pRound kn' (xs.drop i)).1, lf ++ (pRound kn' (xs.drop i)).2.1, m || (pRound kn' (xs.drop i)).2.2)) (hx : xs[i]? = some x) (hp : pOne kn' x = (k1, l1, m1)) :
    pRound kn xs = ((pRound k1 (xs.drop (i + 1))).1, (lf ++ l1) ++ (pRound k1 (xs.drop (i + 1))).2.1, (m || m1) || (pRound k1 (xs.drop (i + 1))).2.2) := by
  rw [h, pRound_at hx, hp]
  simp only [List.append_assoc, Bool.or_assoc]
theorem Chg.transN {S T : Nat → Prop} {a b c : World} (h : Chg S a b) (k : Chg T b c) (hs : ∀ x, T x → S x ∨ a.heap.size ≤ x) : Chg S a c :=
  ⟨k.os.trans h.os, k.tape.trans h.tape, k.output.trans h.output, Nat.le_trans h.size k.size, fun x hx hn => (k.block x (Nat.lt_of_lt_of_le hx h.size) fun e => by rcases hs x e with e | e; exact hn e; omega).trans (h.block x hx hn)⟩
theorem set1_far {w : World} {g i q o : Nat} {a : Value} (h : g ≠ q) : (w.setCell ⟨g, i, none⟩ a).cell? ⟨q, o, none⟩ = w.cell? ⟨q, o, none⟩ :=
  World.cell?_setCell_other _ _ _ _ (fun e => by injection e with e; exact h e)
theorem miss_in {H : List Bool} {kn : Kn} {k : Nat} (h1 : H[k]? = some true) (h2 : kn[k]? = some none) : miss H kn (k + 1) = miss H kn k ++ [k] ∧ got H kn (k + 1) = got H kn k := by
  have e1 : H.getD k false = true := by rw [List.getD_eq_getElem?_getD, h1]; rfl
  have e2 : kn.getD k none = none := by rw [List.getD_eq_getElem?_getD, h2]; rfl
  have e3 : kn.isK k = false := by unfold Kn.isK; rw [e2]; rfl
  rw [miss_succ, got_succ, e1, e2, e3]
  simp
theorem got_in {H : List Bool} {kn : Kn} {k : Nat} {l : List UInt8} (h1 : H[k]? = some true) (h2 : kn[k]? = some (some l)) : miss H kn (k + 1) = miss H kn k ∧ got H kn (k + 1) = got H kn k ++ [l] := by
  have e1 : H.getD k false = true := by rw [List.getD_eq_getElem?_getD, h1]; rfl
  have e2 : kn.getD k none = some l := by rw [List.getD_eq_getElem?_getD, h2]; rfl
  have e3 : kn.isK k = true := by unfold Kn.isK; rw [e2]; rfl
  rw [miss_succ, got_succ, e1, e2, e3]
  simp
theorem not_in {H : List Bool} {kn : Kn} {k : Nat} (h1 : H[k]? = some false) : miss H kn (k + 1) = miss H kn k ∧ got H kn (k + 1) = got H kn k := by
  have e1 : H.getD k false = false := by rw [List.getD_eq_getElem?_getD, h1]; rfl
  rw [miss_succ, got_succ, e1]
  simp

set_option maxRecDepth 100000 in
set_option maxHeartbeats 4000000 in
theorem round_any (w : World) (b K N d g : Nat) (S0 : Nat → Prop) (A : Option Addr) (n c : Nat) (kn : Kn) (xs : List Sm) (hb : 1 ≤ b ∧ b ≤ 24) (hK : 1 ≤ K ∧ K ≤ 16) (hkl : kn.length = b) (hkk : KnLen K kn)
    (hd : w.heap[d]? = some (.cells #[.slice (some ⟨g, 0, none⟩) b b, .slice A n c] 110 (0, 0))) (hk : KnM K w S0 g kn) (hS : ∀ x, S0 x → x < w.heap.size ∧ x ≠ d ∧ x ≠ g) (hdg : d ≠ g) (hNd : N ≤ d) (hNg : N ≤ g)
    (hx : Sl 2 (eLow N eSm) w (fun x => x < w.heap.size ∧ x ≠ d ∧ x ≠ g) A n xs) (hn : n ≤ 60) (hfx : ∀ x ∈ xs, 0 ≤ x.id ∧ x.id ≤ 9999 ∧ x.data.length = K) :
    Calls Try.prog 81 #[.pointer (some ⟨d, 0, none⟩)] w fun e w' => ∃ A' n' c', e = .returned (.bool (pRound kn xs).2.2) ∧ w'.heap[d]? = some (.cells #[.slice (some ⟨g, 0, none⟩) b b, .slice A' n' c'] 110 (0, 0)) ∧ n' ≤ 60 ∧
      KnM K w' (fun x => x < w'.heap.size ∧ x ≠ d ∧ x ≠ g) g (pRound kn xs).1 ∧ Sl 2 (eLow N eSm) w' (fun x => x < w'.heap.size ∧ x ≠ d ∧ x ≠ g) A' n' (pRound kn xs).2.1 ∧ Chg (fun x => x = d ∨ x = g) w w' := by
  obtain ⟨b1, b2⟩ := hb
  have hdl : d < w.heap.size := (Array.getElem?_eq_some_iff.1 hd).1
  have hgl : g < w.heap.size := hk.lt
  have hxl := hx.1
  (obtain ⟨x0, x1⟩ := box2_ hd)
  (have Hd := Lib.hid hd; clear hd; have Hk := Lib.hid hk; clear hk; have HS := Lib.hid hS; clear hS; have Hx := Lib.hid hx; clear hx; have Hfx := Lib.hid hfx; clear hfx; have Hkk := Lib.hid hkk; clear hkk; have Hxl := Lib.hid hxl; clear hxl)
  go_enter Try.func81, Try.ntmps81
  go_wp2_with fail
  go_loopw [3, 4, 19] (fun s3 s4 s19 wr => ∃ (i : Nat) (kn' : Kn) (lf : List Sm) (m : Bool) (S : Nat → Prop), i ≤ n ∧ s3 = .bool m ∧ s19 = .int .i64 i ∧ Hid (Own 2 (eLow N eSm) wr w.heap.size 53 s4 lf) ∧ lf.length ≤ i ∧ Hid (KnM K wr S g kn') ∧ kn'.length = b ∧ Hid (KnLen K kn') ∧ Hid (∀ x, S x → x < wr.heap.size ∧ x ≠ d ∧ x ≠ g ∧ s4.ownBlock ≠ some x) ∧ Hid (pRound kn xs = ((pRound kn' (xs.drop i)).1, lf ++ (pRound kn' (xs.drop i)).2.1, m || (pRound kn' (xs.drop i)).2.2)) ∧ Hid (Chg (fun x => x = g) w wr)) (fun _ _ i _ => n - (intOf i).toNat)
  case atStart => exact ⟨0, kn, [], false, S0, Nat.zero_le _, rfl, rfl, Own.nil, Nat.le_refl _, Hk, hkl, Hkk, fun x h => ⟨(HS.out x h).1, (HS.out x h).2.1, (HS.out x h).2.2, by simp [Value.ownBlock]⟩, rfl, Chg.refl _ _⟩
  case round =>
    obtain ⟨i, kn', lf, m, S, hi, rfl, rfl, HO, hlf, HK, hkl', HKK, HSS, HR, HC⟩ := hrel
    have HDw : Hid (wr.heap[d]? = some (.cells #[.slice (some ⟨g, 0, none⟩) b b, .slice A n c] 110 (0, 0))) := HC.out.blk Hd.out hdg
    have hszw := HC.out.size
    by_cases hlt : i < n
    · have hxw := Hx.out.chg (sSm.low N) HC.out fun b hb => ⟨hb.1, fun e => hb.2.2 e⟩
      obtain ⟨ad, rfl, hE⟩ := hxw.els (by omega)
      obtain ⟨x, hxi, hrx⟩ := hE.row hlt
      obtain ⟨A3, n3, c3, ⟨m0, m1⟩, wx, ⟨k1, k2, k3⟩, hby⟩ := eSm_iff.1 (eLow_iff.1 hrx)
      have m0 : wr.cell? (ad.add (i * 2)) = some (.int .i64 x.id) := by simpa [Addr.add] using m0
      have m1 : wr.cell? ⟨(ad.add (i * 2)).block, (ad.add (i * 2)).off + 1, none⟩ = some (.slice A3 n3 c3) := by simpa [Addr.add] using m1
      obtain ⟨id1, id2, hxK⟩ := Hfx.out x (List.mem_of_getElem? hxi)
      obtain rfl : n3 = K := hby.1.symm.trans hxK
      have HP1 := Lib.hid (pRound_at (kn := kn') hxi)
      have HPC := Lib.hid (pOne_cases kn' x)
      have HTF := Lib.hid (told_facts hK HKK.out (pickHas x.id.toNat kn'.length) hxK)
      have HKL1 := Lib.hid (pOne_knLen hK HKK.out hxK)
      rw [hkl'] at HTF HPC
      obtain ⟨q, hq⟩ : ∃ q, q = wr.heap.size := ⟨_, rfl⟩
      obtain ⟨W5, hW5⟩ : ∃ W5, W5 = wr.alloc (.cells #[.int .i64 x.id, .slice A3 n3 c3] 53) := ⟨_, rfl⟩
      have HX5 : Hid (W5.heap[q]? = some (.cells #[.int .i64 x.id, .slice A3 n3 c3] 53 (0, 0))) := by rw [hW5]; exact heap_new hq
      have HF5 : Hid (Fr wr W5) := by rw [hW5]; exact frAlloc _ _
      have hD5 := blk_go HDw.out HF5.out
      have hX5 := HX5.out
      (obtain ⟨z0, z1⟩ := box2_ hX5)
      (obtain ⟨y0, y1⟩ := box2_ hD5)
      have HBY := Lib.hid (hby.keep (w' := W5) sByte fun p hp => HF5.out.cell (Nat.lt_of_lt_of_le hp.1.1 hszw))
      have HW5 := Lib.hid hW5
      have hqs : w.heap.size ≤ q := by omega
      (have Hxi := Lib.hid hxi; clear hxi; have Hq := Lib.hid hq; clear hq; have HxK := Lib.hid hxK; clear hxK; have HD5 := Lib.hid hD5; clear hD5)
      clear hxw hE hrx wx hW5 hby hX5
      go_wp2_with fail
      rw [← HW5.out, ← Hq.out]
      clear m0 m1
      have CP := Lib.hid (fun W => pick_eq W _ _ id1 id2 b1 b2)
      go_region_held3 (fun w' => w'.cell? ⟨q, 0, none⟩ = some (.int .i64 x.id) ∧ w'.cell? ⟨d, 0, none⟩ = some (.slice (some ⟨g, 0, none⟩) b b)) (first | exact ⟨z0, y0⟩ | go_keep)
        (first
          | (go_at_call 29; (with_reducible refine (CP.out W5.drew).mono ?_); rintro e w6 ⟨A6, c6, rfl, hs6, hf⟩; have hz6 := (cell_of_heap (i := 0) (blk_go (heap_d (w := W5) HX5.out) hf)); have hy6 := (cell_of_heap (i := 0) (blk_go (heap_d (w := W5) HD5.out) hf)))
          | fail)
      have HF6 : Hid (Fr wr w6) := Fr.trans HF5.out.drew hf
      have HX6 := Lib.hid (blk_go (heap_d HX5.out) hf)
      have hD6 := Lib.hid (blk_go (heap_d HD5.out) hf)
      have hX6 := HX6.out
      clear hz6 hy6
      (obtain ⟨z0, z1⟩ := box2_ hX6)
      obtain ⟨H, hH⟩ : ∃ H, H = pickHas x.id.toNat b := ⟨_, rfl⟩
      rw [← hH] at hs6 HTF HPC
      have HHL : Hid (H.length = b) := by rw [hH]; exact length_pickHas _ _
      obtain ⟨W7, hW7⟩ : ∃ W7, W7 = w6.alloc (.cells #[.slice A3 n3 c3] 27) := ⟨_, rfl⟩
      obtain ⟨q7, hq7⟩ : ∃ q7, q7 = w6.heap.size := ⟨_, rfl⟩
      have HF67 : Hid (Fr w6 W7) := by rw [hW7]; exact frAlloc _ _
      have HF7 : Hid (Fr wr W7) := HF6.out.trans HF67.out
      have HBY6 : Hid (Sl 1 eByte w6 (fun b => (b < w.heap.size ∧ b ≠ d ∧ b ≠ g) ∧ b < N) A3 n3 x.data) := HBY.out.keep sByte fun p hp => by
        have h1 : p.block < wr.heap.size := Nat.lt_of_lt_of_le hp.1.1 hszw
        exact (HF6.out.cell h1).trans (HF5.out.cell h1).symm
      have hwr6 := HF6.out.size
      have HO7 : Hid (Own 1 eBlock W7 w6.heap.size 27 (.slice (some ⟨q7, 0, none⟩) 1 1) (x.data :: got H kn' 0)) := by
        refine own_one (vs := [.slice A3 n3 c3]) wBlock (Nat.le_of_eq hq7.symm) (by rw [hW7]; exact heap_new hq7) rfl ⟨A3, n3, c3, rfl, ⟨k1, k2, k3⟩, (HBY6.out.keep (w' := W7) sByte fun p hp => HF67.out.cell (by have := hp.1.1; omega)).more sByte fun y hy => ?_⟩
        have h2 := HF67.out.size
        exact ⟨by have := hy.1.1; omega, by have := hy.1.1; omega⟩
      have HS6 := Lib.hid hs6
      have HK6 := Lib.hid (HK.out.fr HF6.out fun y hy => (HSS.out y hy).1)
      have HD6 := Lib.hid hD6
      have hX7 := blk_go HX6.out HF67.out
      have HW7 := Lib.hid hW7
      have HQ7 := Lib.hid hq7
      have HOr := Lib.hid (HO.out.fr (sSm.low N) HF6.out)
      (have HH := Lib.hid hH; clear hH)
      clear hs6 hf hD6 hX6 hW7 hq7 y0 y1
      go_wp2_with fail
      rw [← HW7.out, ← HQ7.out]
      clear z0 z1
      (obtain ⟨z0, z1⟩ := box2_ hX7)
      clear hX7
      obtain ⟨wo, rfl⟩ : ∃ wo : World, wo = wr := ⟨_, rfl⟩
      go_loopw [9, 10, 11, 39] (fun s9 s10 s11 s39 wy => ∃ (k : Nat), k ≤ b ∧ s39 = .int .i64 k ∧ s9 = .int .i64 ((miss H kn' k).length : Nat) ∧ s10 = .int .i64 (((miss H kn' k).getLastD 0 : Nat) : Int) ∧ Hid (Own 1 eBlock wy w6.heap.size 27 s11 (x.data :: got H kn' k)) ∧ Hid (Fr w6 wy)) (fun _ _ _ i _ => b - (intOf i).toNat)
      case atStart => exact ⟨0, Nat.zero_le _, rfl, rfl, rfl, HO7, HF67⟩
      case round =>
        obtain ⟨k, hkb, rfl, rfl, rfl, HOy, HFy⟩ := hrel
        obtain ⟨wy, rfl⟩ : ∃ wy : World, wy = wr := ⟨_, rfl⟩
        clear z0 z1
        have HKy := Lib.hid (HK6.out.fr HFy.out fun y hy => Nat.lt_of_lt_of_le (HSS.out y hy).1 hwr6)
        have hDy := blk_go HD6.out HFy.out
        have hXy := blk_go HX6.out HFy.out
        (obtain ⟨y0, y1⟩ := box2_ hDy)
        (obtain ⟨z0, z1⟩ := box2_ hXy)
        have HDy := Lib.hid hDy
        have HXy := Lib.hid hXy
        clear hDy hXy
        by_cases hkl : k < b
        · obtain ⟨adh, rfl, hEh⟩ := HS6.out.els (by omega)
          obtain ⟨hbk, hhk, hcb⟩ := hEh.bool hkl
          have hcb' : wy.cell? (adh.add k) = some (.bool hbk) := (HFy.out.cell (p := adh.add k) (by rw [block_of_add]; exact hEh.2.1)).trans hcb
          obtain ⟨xo, v, hxo, hcv, hkv⟩ := HKy.out.get (i := k) (by rw [hkl']; exact hkl)
          have hml := length_miss H kn' k
          obtain ⟨mk, hmk⟩ : ∃ mk, mk = (miss H kn' k).length := ⟨_, rfl⟩
          obtain ⟨la, hla⟩ : ∃ la, la = (miss H kn' k).getLastD 0 := ⟨_, rfl⟩
          rw [← hmk] at hml
          rw [← hmk, ← hla]
          (have Hmk := Lib.hid hmk; clear hmk; have Hla := Lib.hid hla; clear hla)
          have hgl := length_got H kn' k
          clear hEh hcb
          cases hbk with
          | false =>
            have HMG := Lib.hid (not_in (kn := kn') hhk)
            clear hhk hxo hkv hcv
            go_wp2_with fail
            go_roundw
            case rel => exact ⟨k + 1, by omega, by go_num, by rw [HMG.out.1, ← Hmk.out], by rw [HMG.out.1, ← Hla.out], by rw [HMG.out.2]; exact HOy, HFy⟩
            case measure => simp [intOf]; omega
          | true =>
            rcases hkv with ⟨rfl, rfl⟩ | ⟨l, adl, cl, rfl, rfl, hcl, hsl⟩
            · have HMG := Lib.hid (miss_in hhk hxo)
              clear hhk hxo
              go_wp2_with (refine wpList_nil rfl (.tmp 53) 27 _ 5 rfl Try.underlying27 rfl true rfl ?_)
              go_roundw
              case rel => exact ⟨k + 1, by omega, by go_num, by rw [HMG.out.1, List.length_append, ← Hmk.out]; go_num, by rw [HMG.out.1]; simp, by rw [HMG.out.2]; exact HOy, HFy⟩
              case measure => simp [intOf]; omega
            · have HMG := Lib.hid (got_in hhk hxo)
              have HSL := Lib.hid hsl
              have hgl2 : (x.data :: got H kn' k).length ≤ 25 := by simp; omega
              obtain ⟨L, hL⟩ : ∃ L, L = x.data :: got H kn' k := ⟨_, rfl⟩
              have HN : Hid (x.data :: got H kn' (k + 1) = L ++ [l]) := by rw [Hid, HMG.out.2, hL]; rfl
              rw [← hL] at hgl2 HOy
              have hyy : Hid (eBlock wy (fun b => b < wy.heap.size ∧ u11.ownBlock ≠ some b) (fun j => [Value.slice (some adl) n3 cl][j]?) l) := by
                refine ⟨some adl, n3, cl, rfl, ⟨by unfold lim; omega, hcl.1, by unfold maxLen; omega⟩, hsl.more sByte fun y hy => ?_⟩
                have h1 := HSS.out y hy
                have h2 := HFy.out.size
                exact ⟨by omega, fun e => by have := (HOy.out.lt e).1; omega⟩
              have hone : Hid (∀ u ∈ [Value.slice (some adl) n3 cl], u.oneCell' = true) := by intro u hu; simp at hu; subst hu; rfl
              have hLs : (L.length + 1) * 24 ≤ lim := by unfold lim; omega
              have hLm : L.length + 1 ≤ maxLen := by unfold maxLen; omega
              have hbb : w6.heap.size ≤ wy.heap.size := HFy.out.size
              (have HL := Lib.hid hL; clear hL)
              clear hhk hxo hsl
              go_wp2_with (first | (refine wpList_nil rfl (.tmp 53) 27 _ 5 rfl Try.underlying27 rfl false rfl ?_) | (at_builtin; refine wpList_app1 rfl _ _ 35 rfl w6.heap.size 27 (.slice none 0 0) 24 Try.underlying35 infoBlock rfl (by decide) wBlock wy (frAlloc _ _) _ L rfl HOy.out wy.heap.size [.slice (some adl) n3 cl] 27 (0, 0) rfl (heap_new rfl) rfl hone.out l hyy.out hLm hLs w6.heap.size w6 HFy.out (Nat.le_refl _) hbb ?_))
              intro v' w3 HO3 HF3
              go_wp2_with fail
              go_roundw
              case rel => exact ⟨k + 1, by omega, by go_num, by rw [HMG.out.1, ← Hmk.out], by rw [HMG.out.1, ← Hla.out], by rw [HN.out]; exact HO3, HF3⟩
              case measure => simp [intOf]; omega
        · obtain rfl : k = b := by omega
          have HFr : Hid (Fr wo wy) := HF6.out.trans HFy.out
          have HOw := Lib.hid (HOr.out.fr (sSm.low N) HFy.out)
          have HBYy : Hid (Sl 1 eByte wy (fun b => (b < w.heap.size ∧ b ≠ d ∧ b ≠ g) ∧ b < N) A3 n3 x.data) := HBY6.out.keep sByte fun p hp => HFy.out.cell (by have := hp.1.1; omega)
          have hwy := HFy.out.size
          rcases HPC.out with ⟨a, hm, ha, hha, hak, epo⟩ | ⟨hm, epo⟩ | ⟨hm, epo⟩
          · have e1 : (miss H kn' k).length = 1 := by rw [hm]; rfl
            have e2 : (miss H kn' k).getLastD 0 = a := by rw [hm]; rfl
            rw [e1, e2]
            obtain ⟨T, hT⟩ : ∃ T, T = told H x.data kn' := ⟨_, rfl⟩
            rw [← hT] at HTF epo
            have hkl1 : (kn'.set a (some T)).length = k := by rw [List.length_set]; exact hkl'
            have hgl3 := length_got H kn' k
            obtain ⟨A8, c8, rfl, ⟨hc8, hm8⟩, hs8⟩ := HOy.out.slC wBlock (by decide)
            obtain ⟨n8, hn8⟩ : ∃ n8, n8 = (x.data :: got H kn' k).length := ⟨_, rfl⟩
            have hn8b : n8 ≤ 25 := by rw [hn8]; simp; omega
            rw [← hn8] at hs8 hc8 ⊢
            have CS := Lib.hid (sumAdd_nw wy.drew A8 n8 c8 (x.data :: got H kn' k) (hs8.keep wBlock fun _ _ => rfl) (by unfold lim; omega))
            rw [HTF.out.1] at CS
            obtain ⟨xo, va, hxo, hva, _⟩ := HKy.out.get (i := a) (by omega)
            have HVA := Lib.hid hva
            have HFA : Hid (wy.frozen? ⟨g, a, none⟩ = false) := HKy.out.free
            have HR' : Hid (pRound kn xs = ((pRound (kn'.set a (some T)) (xs.drop (i + 1))).1, lf ++ (pRound (kn'.set a (some T)) (xs.drop (i + 1))).2.1, true || (pRound (kn'.set a (some T)) (xs.drop (i + 1))).2.2)) := by
              have := pRound_step HR.out Hxi.out epo
              rwa [List.append_nil, Bool.or_true] at this
            have HKK' : Hid (KnLen n3 (kn'.set a (some T))) := by
              have := HKL1.out
              rw [epo] at this; exact this
            have hak2 : a < kn'.length := by omega
            have hgw : g < wy.heap.size := by omega
            have NE : g ≠ d := fun e => hdg e.symm
            (have Hs8 := Lib.hid hs8; clear hs8; have Hn8 := Lib.hid hn8; clear hn8; have HT := Lib.hid hT; clear hT)
            clear hm e1 e2 hxo hha hak epo hva
            go_wp2_with fail
            go_region_held3 (fun w' => w'.cell? ⟨d, 0, none⟩ = some (.slice (some ⟨g, 0, none⟩) k k)) (first | exact y0 | exact (set1_far NE).trans hy9 | go_keep)
              (first
                | (go_at_call 76; (with_reducible refine CS.out.mono ?_); rintro e w9 ⟨A9, n9, c9, rfl, ⟨_, hn9, hc9⟩, h19, hs9, hf9⟩; have hy9 : w9.cell? ⟨d, 0, none⟩ = some (.slice (some ⟨g, 0, none⟩) k k) := (cell_of_heap (i := 0) (blk_go (heap_d (w := wy) HDy.out) hf9)); have hv9 : w9.cell? ⟨g, a, none⟩ = some va := (hf9.cell (p := ⟨g, a, none⟩) hgw).trans HVA.out; have hv8 : w9.frozen? ⟨g, a, none⟩ = false := (hf9.frozen (p := ⟨g, a, none⟩) hgw).trans HFA.out; have hfy : Fr wy w9 := Fr.trans (Below.refl _ _).drew hf9; have HFY9 := Lib.hid hfy; have HS9 := Lib.hid hs9; have H19 := Lib.hid (h19 (by trivial)); clear hf9 hs9 h19 hfy)
                | fail)
            obtain rfl : n9 = n3 := HS9.out.1.symm.trans HTF.out.2.1
            obtain ⟨ad9, rfl, _⟩ := HS9.out.els H19.out
            have hw9 := HFY9.out.size
            have HFr9 : Hid (Fr wo w9) := HFr.out.trans HFY9.out
            have HO10 : Hid (Own 2 (eLow N eSm) (w9.setCell ⟨g, a, none⟩ (.slice (some ad9) n9 c9)) w.heap.size 53 u4 lf) :=
              (HOw.out.fr (sSm.low N) HFY9.out).lowChg sSm (Chg.set (S := fun y => y = g) (p := ⟨g, a, none⟩) (Chg.refl _ w9) rfl _) fun y hy => by rw [hy]; exact ⟨hNg, hgl⟩
            have HK10 : Hid (KnM n9 (w9.setCell ⟨g, a, none⟩ (.slice (some ad9) n9 c9)) (fun y => S y ∨ (wy.heap.size ≤ y ∧ y < w9.heap.size)) g (kn'.set a (some T))) := by
              refine KnM.set ((HKy.out.fr HFY9.out fun y hy => ?_).more fun y hy => .inl hy) (fun h => ?_) hak2 ⟨hn9, hc9⟩ (HS9.out.more sByte fun y hy => .inr hy)
              · have := HSS.out y hy; omega
              · rcases h with h | h
                · exact (HSS.out g h).2.2.1 rfl
                · omega
            have HSS' : Hid (∀ y, (S y ∨ (wy.heap.size ≤ y ∧ y < w9.heap.size)) → y < (w9.setCell ⟨g, a, none⟩ (.slice (some ad9) n9 c9)).heap.size ∧ y ≠ d ∧ y ≠ g ∧ u4.ownBlock ≠ some y) := fun y hy => by
              rw [size_setCell]
              rcases hy with hy | hy
              · have := HSS.out y hy
                exact ⟨by omega, this.2⟩
              · exact ⟨by omega, by omega, by omega, fun e => by have := (HOw.out.lt e).2; omega⟩
            have HC' : Hid (Chg (fun x => x = g) w (w9.setCell ⟨g, a, none⟩ (.slice (some ad9) n9 c9))) := Chg.set (S := fun y => y = g) (p := ⟨g, a, none⟩) (HC.out.trans HFr9.out.chg) rfl _
            clear hy9 hv9 hv8
            go_wp2_with fail
            go_roundw
            case rel => exact ⟨i + 1, _, lf, true, _, by omega, rfl, by go_num, HO10, by omega, HK10, hkl1, HKK', HSS', HR', HC'⟩
            case measure => simp [intOf]; omega
          · have hm : 1 < (miss H kn' k).length := hm
            have hml := length_miss H kn' k
            obtain ⟨mk, hmk⟩ : ∃ mk, mk = (miss H kn' k).length := ⟨_, rfl⟩
            rw [← hmk] at hm hml ⊢
            have HR' : Hid (pRound kn xs = ((pRound kn' (xs.drop (i + 1))).1, (lf ++ [x]) ++ (pRound kn' (xs.drop (i + 1))).2.1, m || (pRound kn' (xs.drop (i + 1))).2.2)) := by
              have := pRound_step HR.out Hxi.out epo
              rwa [Bool.or_false] at this
            have hyy : Hid (eLow N eSm wy (fun b => b < wy.heap.size ∧ u4.ownBlock ≠ some b) (fun j => [Value.int .i64 x.id, .slice A3 n3 c3][j]?) x) := by
              refine eLow_iff.2 (eSm_iff.2 ⟨A3, n3, c3, ⟨rfl, rfl⟩, wfI.mk (by omega), ⟨k1, k2, k3⟩, HBYy.out.more sByte fun y hy => ⟨⟨by have := hy.1.1; omega, fun e => ?_⟩, hy.2⟩⟩)
              have h1 := (HOw.out.lt e).1
              have := hy.1.1
              omega
            have hone : Hid (∀ u ∈ [Value.int .i64 x.id, .slice A3 n3 c3], u.oneCell' = true) := by intro u hu; simp at hu; rcases hu with rfl | rfl <;> rfl
            have hLs : (lf.length + 1) * 32 ≤ lim := by unfold lim; omega
            have hLm : lf.length + 1 ≤ maxLen := by unfold maxLen; omega
            have hbb : w.heap.size ≤ wy.heap.size := by omega
            clear hmk epo
            go_wp2_with (at_builtin; refine wpList_app1o rfl _ _ 50 rfl w.heap.size 53 (.agg #[.int .i64 0, .slice none 0 0]) 32 Try.underlying50 infoSym rfl (by decide) (sSm.low N) wy (frAlloc _ _) _ lf rfl HOw.out wy.heap.size [.int .i64 x.id, .slice A3 n3 c3] 53 (0, 0) rfl (heap_new rfl) rfl hone.out x hyy.out hLm hLs hbb ?_)
            intro v' w3 HO3 HC3 HL3
            have HK3 : Hid (KnM n3 w3 S g kn') := HKy.out.chg HC3.out (fun e => by have := (HOw.out.lt e).1; omega) fun y hy => by
              have := HSS.out y hy
              exact ⟨by omega, this.2.2.2⟩
            have hw3 := HC3.out.size
            have HSS' : Hid (∀ y, S y → y < w3.heap.size ∧ y ≠ d ∧ y ≠ g ∧ v'.ownBlock ≠ some y) := fun y hy => by
              have h1 := HSS.out y hy
              refine ⟨by omega, h1.2.1, h1.2.2.1, fun e => ?_⟩
              rcases HL3.out y e with e | e
              · exact h1.2.2.2 e
              · omega
            have HC' : Hid (Chg (fun x => x = g) w w3) := (HC.out.trans HFr.out.chg).transN HC3.out fun y hy => .inr (HOw.out.lt hy).1
            go_wp2_with fail
            go_roundw
            case rel => exact ⟨i + 1, kn', lf ++ [x], m, S, by omega, rfl, by go_num, HO3, by simp; omega, HK3, hkl', HKK, HSS', HR', HC'⟩
            case measure => simp [intOf]; omega
          · have hmk : (miss H kn' k).length = 0 := hm
            have HR' : Hid (pRound kn xs = ((pRound kn' (xs.drop (i + 1))).1, lf ++ (pRound kn' (xs.drop (i + 1))).2.1, m || (pRound kn' (xs.drop (i + 1))).2.2)) := by
              have := pRound_step HR.out Hxi.out epo
              rwa [List.append_nil, Bool.or_false] at this
            have HSS' : Hid (∀ y, S y → y < wy.heap.size ∧ y ≠ d ∧ y ≠ g ∧ u4.ownBlock ≠ some y) := fun y hy => by
              have := HSS.out y hy
              exact ⟨by omega, this.2⟩
            have HC' : Hid (Chg (fun x => x = g) w wy) := HC.out.trans HFr.out.chg
            rw [hmk]
            clear hm hmk epo
            go_wp2_with fail
            go_roundw
            case rel => exact ⟨i + 1, kn', lf, m, S, by omega, rfl, by go_num, HOw, by omega, HKy, hkl', HKK, HSS', HR', HC'⟩
            case measure => simp [intOf]; omega
    · obtain rfl : i = n := by omega
      have HE : Hid (pRound kn xs = (kn', lf, m)) := by
        have := HR.out
        rw [List.drop_eq_nil_of_le (by rw [Hxl.out]; exact Nat.le_refl _)] at this
        rw [Hid, this]
        simp [pRound]
      obtain ⟨A', c', rfl, ⟨hc', hm'⟩, hs'⟩ := HO.out.lowOut sSm
      have hD := HDw.out
      (obtain ⟨y0, y1⟩ := box2_ hD)
      have f1 := blk_free (i := 1) HDw.out
      have hDl := (Array.getElem?_eq_some_iff.1 hD).1
      obtain ⟨nl, hnl⟩ : ∃ nl, nl = lf.length := ⟨_, rfl⟩
      rw [← hnl] at hs' hc' hlf ⊢
      have hfar : ∀ p : Addr, p.block ≠ d → (wr.setCell ⟨d, 1, none⟩ (.slice A' nl c')).cell? p = wr.cell? p := fun p hp => World.cell?_setCell_other _ _ _ _ fun e => hp (by rw [← e])
      have HD' : Hid ((wr.setCell ⟨d, 1, none⟩ (.slice A' nl c')).heap[d]? = some (.cells #[.slice (some ⟨g, 0, none⟩) b b, .slice A' nl c'] 110 (0, 0))) := by
        unfold Hid
        simp [World.setCell, Array.getElem?_modify, hD]
      have HKf : Hid (KnM K (wr.setCell ⟨d, 1, none⟩ (.slice A' nl c')) (fun x => x < (wr.setCell ⟨d, 1, none⟩ (.slice A' nl c')).heap.size ∧ x ≠ d ∧ x ≠ g) g kn') := by
        refine (HK.out.chg (Chg.set (S := fun y => y = d) (p := ⟨d, 1, none⟩) (Chg.refl _ wr) rfl _) (fun e => hdg e.symm) fun y hy => ⟨(HSS.out y hy).1, (HSS.out y hy).2.1⟩).more fun y hy => ?_
        rw [size_setCell]
        exact ⟨(HSS.out y hy).1, (HSS.out y hy).2.1, (HSS.out y hy).2.2.1⟩
      have HSf : Hid (Sl 2 (eLow N eSm) (wr.setCell ⟨d, 1, none⟩ (.slice A' nl c')) (fun x => x < (wr.setCell ⟨d, 1, none⟩ (.slice A' nl c')).heap.size ∧ x ≠ d ∧ x ≠ g) A' nl lf) := by
        rw [size_setCell]
        refine (hs'.keep (sSm.low N) fun p hp => hfar p ?_).more (sSm.low N) fun y hy => ⟨hy.1, by omega, by omega⟩
        have := hp.2; omega
      have HCf : Hid (Chg (fun x => x = d ∨ x = g) w (wr.setCell ⟨d, 1, none⟩ (.slice A' nl c'))) := Chg.set (S := fun y => y = d ∨ y = g) (p := ⟨d, 1, none⟩) (HC.out.more fun y hy => .inr hy) (.inl rfl) _
      clear hs' hD hfar hnl
      go_wp2_with fail
      go_ret
      rw [HE.out]
      exact ⟨A', nl, c', rfl, HD'.out, by omega, HKf.out, HSf.out, HCf.out⟩
end Go.Proofs.Ytnfjghldcopaaaa
namespace Go.Proofs.Ytnfjghldcopaaaa
open Go.RowKit
attribute [local irreducible] wpList

/-- The first symbol that is none of the plan. -/
def symsErr (B K : Int) : List Sm → Int
  | [] => 0
  | x :: xs => if codeCheck B K x.id x.data.length ≠ 0 then codeCheck B K x.id x.data.length else symsErr B K xs
theorem symsErr_ok {B K : Int} : ∀ {xs : List Sm}, symsErr B K xs = 0 ↔ ∀ x ∈ xs, codeCheck B K x.id x.data.length = 0
  | [] => ⟨fun _ _ h => absurd h (by simp), fun _ => rfl⟩
  | x :: xs => by
    rw [symsErr]
    by_cases h : codeCheck B K x.id x.data.length = 0
    · rw [if_neg (by simp [h]), symsErr_ok]
      exact ⟨fun h2 => List.forall_mem_cons.2 ⟨h, h2⟩, fun h2 => (List.forall_mem_cons.1 h2).2⟩
    · rw [if_pos h]
      exact ⟨fun h2 => absurd h2 h, fun h2 => absurd (h2 x (by simp)) h⟩
/-- What peel.Known answers. -/
def peelKn (B K : Int) (xs : List Sm) : Kn × Int :=
  if cutCheck B K ≠ 0 then ([], cutCheck B K) else if 60 < xs.length then ([], 2) else if symsErr B K xs ≠ 0 then ([], symsErr B K xs) else (peelF (blocksOf B K).toNat xs, 0)
def PeelPost (K : Int) (w : World) (x : Kn × Int) (e : Ending) (w' : World) : Prop :=
  Fr w w' ∧ ((x.1 = [] ∧ x.2 ≠ 0 ∧ e = .returned (.tuple #[.slice none 0 0, .int .i64 x.2])) ∨ (x.2 = 0 ∧ ∃ g n : Nat, e = .returned (.tuple #[.slice (some ⟨g, 0, none⟩) n n, .int .i64 0]) ∧ x.1.length = n ∧ (1 ≤ n ∧ n ≤ 24) ∧ KnM K.toNat w' (fun y => y < w'.heap.size ∧ y ≠ g) g x.1))
theorem peelPost_err {K er : Int} {w w' : World} {x : Kn × Int} (hx : x = ([], er)) (he : er ≠ 0) (hf : Fr w w') : PeelPost K w x (.returned (.tuple #[.slice none 0 0, .int .i64 er])) w' := by
  subst hx
  exact ⟨hf, .inl ⟨rfl, he, rfl⟩⟩

def isNil : Value → Bool
  | .slice none _ _ => true
  | _ => false
/-- How many cells of a block are nil. -/
def nilsAt (g : Nat) (w : World) : Nat :=
  match w.heap[g]? with
  | some (.cells cs _ _) => cs.toList.countP isNil
  | _ => 0
theorem nilsAt_kn {K : Nat} {w : World} {S : Nat → Prop} {g : Nat} {kn : Kn} (h : KnM K w S g kn) : nilsAt g w = nones kn := by
  obtain ⟨vs, h1, h2, h3⟩ := h
  unfold nilsAt nones
  rw [h1]
  show vs.countP isNil = kn.countP _
  have key : ∀ (vs : List Value) (kn : Kn), vs.length = kn.length → (∀ (i : Nat) (x : Option (List UInt8)), kn[i]? = some x → ∃ v, vs[i]? = some v ∧ KnV K w S v x) → vs.countP isNil = kn.countP fun x => x.isNone := by
    intro vs
    induction vs with
    | nil => intro kn hl _; cases kn with
      | nil => rfl
      | cons _ _ => simp at hl
    | cons v vs ih =>
      intro kn hl hk
      cases kn with
      | nil => simp at hl
      | cons x kn =>
        obtain ⟨v', hv', hkv⟩ := hk 0 x rfl
        simp at hv'
        subst hv'
        have ih' := ih kn (by simpa using hl) fun i x hx => by simpa using hk (i + 1) x (by simpa using hx)
        rw [List.countP_cons, List.countP_cons, ih']
        congr 1
        rcases hkv with ⟨rfl, rfl⟩ | ⟨l, ad, c, rfl, rfl, _⟩ <;> simp [isNil]
  exact key vs kn h2 h3
theorem knM_none {K n : Nat} {w : World} {S : Nat → Prop} {g : Nat} (h : w.heap[g]? = some (.cells (ca id (List.replicate n (Value.slice none 0 0))) 27 (0, 0))) : KnM K w S g (List.replicate n none) := by
  refine ⟨List.replicate n (.slice none 0 0), ?_, by simp, fun i x hx => ?_⟩
  · rw [h]; simp [ca]
  · rw [List.getElem?_replicate] at hx
    split at hx
    · rename_i hi
      injection hx with hx
      exact ⟨.slice none 0 0, by rw [List.getElem?_replicate, if_pos hi], .inl ⟨hx.symm, rfl⟩⟩
    · cases hx

set_option maxRecDepth 100000 in
set_option maxHeartbeats 4000000 in
theorem peelKn_good (w : World) (B : Int) (K b : Nat) (A : Option Addr) (n c : Nat) (xs : List Sm) (h : Sl 2 eSm w (LT w.heap.size) A n xs) (hn : n ≤ 60) (hck : cutCheck B K = 0) (hb : blocksOf B K = b) :
    Calls Try.prog 49 #[.agg #[.int .i64 B, .int .i64 K], .slice A n c] w (PeelPost K w (peelKn B K xs)) := by
  obtain ⟨⟨c1, c2⟩, ⟨c3, c4⟩, c5, c6, c7⟩ := cutCheck_ok hck
  have hd60 : decide ((60 : Int) < (n : Int)) = false := by simp; omega
  have hd61 : decide (60 < n) = false := by simp; omega
  have hlen := h.1
  have D0 : Hid (peelKn B K xs = if symsErr B K xs ≠ 0 then ([], symsErr B K xs) else (peelF b xs, 0)) := by
    unfold peelKn Hid
    rw [if_neg (by simp [hck]), if_neg (by omega), hb, Int.toNat_natCast]
  have b1 : 1 ≤ b := by omega
  have b2 : b ≤ 24 := by omega
  have hK : 1 ≤ K ∧ K ≤ 16 := by omega
  have wB : wfI B := wfI.mk (by omega)
  have wK : wfI (K : Int) := wfI.mk (by omega)
  have CB : Hid (∀ W : World, Calls Try.prog 41 #[.agg #[.int .i64 B, .int .i64 K]] W fun e w' => e = .returned (.int .i64 (b : Int)) ∧ Fr W w') := fun W => by
    have := cutBlocks_any W B K wB wK
    rw [hb] at this; exact this
  have hmk := run_make_ca (P := Try.prog) (id : Value → Value) (.slice none 0 0) 35 27 24 Try.underlying35 infoNB rfl .i64 .i64 b (by omega) (by omega)
  have HCK := Lib.hid hck
  have HL := Lib.hid hlen
  (have H := Lib.hid h; clear h)
  clear hck hb hlen c1 c2 c3 c4 c5 c6 c7
  go_enter Try.func49, Try.ntmps49
  go_wp2_with fail
  (with_reducible refine (cutCheck_any _ _ _ wB wK).mono ?_)
  rw [HCK.out]
  rintro e v1 ⟨rfl, hf⟩
  have HP1 : Hid (v1.heap[w.heap.size]? = some (.cells #[.int .i64 B, .int .i64 K] 47 (0, 0))) := blk_go (by (repeat' (with_reducible (first | (refine heap_new ?_; (first | (simp; done) | rfl); done) | refine heap_dn ?_ | refine heap_d ?_ | refine heap_old ?_)))) hf
  have HF1 : Hid (Fr w v1) := Fr.trans (by (repeat' (first | exact Below.refl _ _ | refine below_drewN ?_ _ | refine Below.drew ?_ | refine frA ?_ _))) hf
  have hp1 := HP1.out
  (obtain ⟨x0, x1⟩ := box2_ hp1)
  clear hf hp1
  go_wp2_with fail
  (with_reducible refine (CB.out _).mono ?_)
  rintro e v2 ⟨rfl, hf⟩
  have HP2 := Lib.hid (blk_go HP1.out hf)
  have HF2 : Hid (Fr w v2) := HF1.out.trans hf
  have hp2 := HP2.out
  (obtain ⟨x0, x1⟩ := box2_ hp2)
  have hwl := (Array.getElem?_eq_some_iff.1 hp2).1
  clear hf hp2
  obtain ⟨g, hg⟩ : ∃ g, g = v2.heap.size := ⟨_, rfl⟩
  obtain ⟨Wa, hWa⟩ : ∃ Wa, Wa = v2.alloc (.cells (ca id (List.replicate b (.slice none 0 0))) 27) := ⟨_, rfl⟩
  obtain ⟨d, hd⟩ : ∃ d, d = Wa.heap.size := ⟨_, rfl⟩
  obtain ⟨W2, hW2⟩ : ∃ W2, W2 = Wa.alloc (.cells #[.slice (some ⟨g, 0, none⟩) b b, .slice none 0 0] 110) := ⟨_, rfl⟩
  have hda : d = g + 1 := by rw [hd, hWa, hg]; simp
  have hz2 : W2.heap.size = d + 1 := by rw [hW2, hd]; simp
  have HFa2 : Hid (Fr Wa W2) := by rw [hW2]; exact frAlloc _ _
  have HF2a : Hid (Fr v2 Wa) := by rw [hWa]; exact frAlloc _ _
  have HFW : Hid (Fr w W2) := (HF2.out.trans HF2a.out).trans HFa2.out
  have HDW : Hid (W2.heap[d]? = some (.cells #[.slice (some ⟨g, 0, none⟩) b b, .slice none 0 0] 110 (0, 0))) := by rw [hW2]; exact heap_new hd
  have hKa : Wa.heap[g]? = some (.cells (ca id (List.replicate b (Value.slice none 0 0))) 27 (0, 0)) := by rw [hWa]; exact heap_new hg
  have HKW : Hid (KnM K W2 (fun y => y < W2.heap.size ∧ y ≠ d ∧ y ≠ g) g (List.replicate b none)) := knM_none (blk_go hKa HFa2.out)
  have HPW : Hid (W2.heap[w.heap.size]? = some (.cells #[.int .i64 B, .int .i64 K] 47 (0, 0))) := blk_go (blk_go HP2.out HF2a.out) HFa2.out
  have hwg : w.heap.size < g := by omega
  have HWa := Lib.hid hWa
  have HW2 := Lib.hid hW2
  have HDA := Lib.hid hda
  have hgd : g < d := by omega
  have hdW2 : d < W2.heap.size := by omega
  (have Hg := Lib.hid hg; clear hg)
  clear hWa hW2 hKa hd hda hz2
  go_wp2_with fail
  rw [← Hg.out, ← HDA.out, ← HWa.out, ← HW2.out]
  clear hmk x0 x1 HP1 HP2
  go_loopw [26] (fun s26 wr => ∃ (i : Nat) (v9 : Value), i ≤ n ∧ s26 = .int .i64 i ∧ Hid (wr.heap[d]? = some (.cells #[.slice (some ⟨g, 0, none⟩) b b, v9] 110 (0, 0))) ∧ Hid (Own 2 (eLow w.heap.size eSm) wr W2.heap.size 53 v9 (xs.take i)) ∧ Hid (Chg (fun x => x = d) W2 wr) ∧ Hid (symsErr B K xs = symsErr B K (xs.drop i)) ∧ Hid (∀ x ∈ xs.take i, codeCheck B K x.id x.data.length = 0)) (fun i _ => n - (intOf i).toNat)
  case atStart => exact ⟨0, .slice none 0 0, Nat.zero_le _, rfl, HDW, Own.nil, Chg.refl _ _, rfl, fun x h => by simp at h⟩
  case round =>
    obtain ⟨i, v9, hi, rfl, HD, HO, HC, HE, HA⟩ := hrel
    have HFr : Hid (Fr w wr) := HC.out.fr HFW.out fun y hy => by omega
    have HPr : Hid (wr.heap[w.heap.size]? = some (.cells #[.int .i64 B, .int .i64 K] 47 (0, 0))) := HC.out.blk HPW.out (by omega)
    have hpr := HPr.out
    (obtain ⟨x0, x1⟩ := box2_ hpr)
    have hdr := HD.out
    (obtain ⟨y0, y1⟩ := box2_ hdr)
    have hwr0 := (Array.getElem?_eq_some_iff.1 hpr).1
    have hwr7 := (Array.getElem?_eq_some_iff.1 hdr).1
    clear hpr hdr
    by_cases hlt : i < n
    · obtain ⟨ad, rfl, hE⟩ := H.out.els (by omega)
      obtain ⟨x, hx, hrx⟩ := hE.row hlt
      obtain ⟨A3, n3, c3, ⟨m0, m1⟩, wx, ⟨k1, k2, k3⟩, hby⟩ := eSm_iff.1 hrx
      have hadl : ad.block < w.heap.size := hE.2.1
      have m0 : wr.cell? (ad.add (i * 2)) = some (.int .i64 x.id) := (HFr.out.cell (by rw [block_of_add]; exact hadl)).trans (by simpa [Addr.add] using m0)
      have m1 : wr.cell? ⟨(ad.add (i * 2)).block, (ad.add (i * 2)).off + 1, none⟩ = some (.slice A3 n3 c3) := (HFr.out.cell (by show (ad.add (i * 2)).block < _; rw [block_of_add]; exact hadl)).trans (by simpa [Addr.add] using m1)
      have hdl := hby.1
      obtain ⟨q, hq⟩ : ∃ q, q = wr.heap.size := ⟨_, rfl⟩
      obtain ⟨W4, hW4⟩ : ∃ W4, W4 = wr.alloc (.cells #[.int .i64 x.id, .slice A3 n3 c3] 53) := ⟨_, rfl⟩
      have HX4 : Hid (W4.heap[q]? = some (.cells #[.int .i64 x.id, .slice A3 n3 c3] 53 (0, 0))) := by rw [hW4]; exact heap_new hq
      have HD4 : Hid (W4.heap[d]? = some (.cells #[.slice (some ⟨g, 0, none⟩) b b, v9] 110 (0, 0))) := by rw [hW4]; exact heap_old HD.out
      have HP4 : Hid (W4.heap[w.heap.size]? = some (.cells #[.int .i64 B, .int .i64 K] 47 (0, 0))) := by rw [hW4]; exact heap_old HPr.out
      have HF4 : Hid (Fr wr W4) := by rw [hW4]; exact frAlloc _ _
      have HQ := Lib.hid hq
      have HW4 := Lib.hid hW4
      obtain ⟨ck, hck⟩ : ∃ ck, ck = codeCheck B K x.id n3 := ⟨_, rfl⟩
      have CC := Lib.hid (fun W A c => codeCheck_any W B K x.id A n3 c wB wK)
      rw [← hck] at CC
      have HCK2 : Hid (codeCheck B K x.id x.data.length = ck) := by rw [Hid, hdl, hck]
      have HEX : Hid (symsErr B K xs = if ck ≠ 0 then ck else symsErr B K (xs.drop (i + 1))) := by
        rw [Hid, HE.out, drop_cons hx, symsErr, HCK2.out]
      have HTK : Hid (xs.take (i + 1) = xs.take i ++ [x]) := take_snoc' hx
      have hlq : d < q := by have := HC.out.size; omega
      have hone : Hid (∀ u ∈ [Value.int .i64 x.id, .slice A3 n3 c3], u.oneCell' = true) := by intro u hu; simp at hu; rcases hu with rfl | rfl <;> rfl
      have HBY := Lib.hid hby
      have WX := Lib.hid wx
      have hqd : q ≠ d := by omega
      (have Hdl := Lib.hid hdl; clear hdl; have Hck := Lib.hid hck; clear hck)
      clear hrx hE hx hby hq hW4 wx
      go_wp2_with fail
      rw [← HW4.out, ← HQ.out]
      clear x0 x1 y0 y1 m0 m1 HW4
      (with_reducible refine (CC.out _ _ _).mono ?_)
      rintro e v5 ⟨rfl, hf⟩
      have HX5 := Lib.hid (blk_go HX4.out hf)
      have HD5 := Lib.hid (blk_go HD4.out hf)
      have HF5 : Hid (Fr wr v5) := HF4.out.trans hf
      clear hf HX4 HD4 HP4 HF4 CC
      by_cases hc0 : ck = 0
      · have e1 : (ck != 0) = false := by simp [hc0]
        have HE' : Hid (symsErr B K xs = symsErr B K (xs.drop (i + 1))) := by rw [Hid, HEX.out, if_neg (by simp [hc0])]
        have HA' : Hid (∀ y ∈ xs.take (i + 1), codeCheck B K y.id y.data.length = 0) := fun y hy => by
          rw [HTK.out] at hy
          rcases List.mem_append.1 hy with hy | hy
          · exact HA.out y hy
          · obtain rfl := List.mem_singleton.1 hy; rw [HCK2.out]; exact hc0
        obtain ⟨L, hL⟩ : ∃ L, L = xs.take i := ⟨_, rfl⟩
        have hLl : L.length ≤ 60 := by rw [hL, List.length_take]; omega
        rw [← hL] at HO HTK
        have hLs : (L.length + 1) * 32 ≤ lim := by unfold lim; omega
        have hLm : L.length + 1 ≤ maxLen := by unfold maxLen; omega
        have HO5 := Lib.hid (HO.out.fr (sSm.low _) HF5.out)
        have hx5 := HX5.out
        (obtain ⟨z0, z1⟩ := box2_ hx5)
        have hd5 := HD5.out
        (obtain ⟨y0, y1⟩ := box2_ hd5)
        have f5 := blk_free (i := 1) hd5
        have hdl5 := (Array.getElem?_eq_some_iff.1 hd5).1
        have hbb : W2.heap.size ≤ v5.heap.size := Nat.le_trans HC.out.size HF5.out.size
        have hyy : Hid (eLow w.heap.size eSm v5 (fun b => b < v5.heap.size ∧ v9.ownBlock ≠ some b) (fun j => [Value.int .i64 x.id, .slice A3 n3 c3][j]?) x) := by
          refine eLow_iff.2 (eSm_iff.2 ⟨A3, n3, c3, ⟨rfl, rfl⟩, WX.out, ⟨k1, k2, k3⟩, (HBY.out.keep sByte fun p hp => (HFr.out.trans HF5.out).cell hp).more sByte fun y hy => ?_⟩)
          have hy : y < w.heap.size := hy
          have h1 := (HFr.out.trans HF5.out).size
          refine ⟨⟨by omega, fun e => ?_⟩, hy⟩
          have := (HO5.out.lt e).1
          omega
        have hfz : Hid (Fr v5 (v5.alloc (.cells #[.int .i64 x.id, .slice A3 n3 c3] 53)).drew) := (frAlloc _ _).drew
        (have HL := Lib.hid hL; clear hL)
        clear hx5 hd5 hc0 HEX HCK2
        have hnd : Hid (¬ v9.ownBlock = some d) := fun e => by have := (HO5.out.lt e).1; omega
        go_wp2_with fail
        go_region_law (refine step_app1o rfl _ _ 50 rfl W2.heap.size 53 (.agg #[.int .i64 0, .slice none 0 0]) 32 Try.underlying50 infoSym rfl (by decide) (sSm.low w.heap.size) v5 hfz.out _ L rfl HO5.out v5.heap.size [.int .i64 x.id, .slice A3 n3 c3] 53 (0, 0) rfl (heap_d (heap_new rfl)) rfl hone.out x hyy.out hLm hLs hbb ?_; intro v' w3 HO3 HC3 HL3; obtain ⟨Av, nv, cv, rfl⟩ := HO3.out.isSl; have hd3 := HC3.out.blk HD5.out hnd.out; have e31 := cell_of_heap (i := 1) hd3; have f31 := blk_free (i := 1) hd3)
        all_goals
          have hd3 := HC3.out.blk HD5.out hnd.out
          have HDf : Hid ((w3.setCell ⟨d, 1, none⟩ (.slice Av nv cv)).heap[d]? = some (.cells #[.slice (some ⟨g, 0, none⟩) b b, .slice Av nv cv] 110 (0, 0))) := by
            unfold Hid
            simp [World.setCell, Array.getElem?_modify, hd3]
          have HCf : Hid (Chg (fun x => x = d) W2 (w3.setCell ⟨d, 1, none⟩ (.slice Av nv cv))) := Chg.set (S := fun y => y = d) (p := ⟨d, 1, none⟩) ((HC.out.trans HF5.out.chg).transN HC3.out fun y hy => .inr (HO5.out.lt hy).1) rfl _
          have HOf : Hid (Own 2 (eLow w.heap.size eSm) (w3.setCell ⟨d, 1, none⟩ (.slice Av nv cv)) W2.heap.size 53 (.slice Av nv cv) (xs.take (i + 1))) := by
            rw [HTK.out]
            exact HO3.out.lowChg sSm (Chg.set (S := fun y => y = d) (p := ⟨d, 1, none⟩) (Chg.refl _ w3) rfl _) fun y hy => by omega
          clear hd3
          go_wp2_with fail
          go_roundw
          case rel => exact ⟨i + 1, _, by omega, by go_num, HDf, HOf, HCf, HE', HA'⟩
          case measure => simp [intOf]; omega
      · have e1 : (ck != 0) = true := by simp [hc0]
        have ED : Hid (peelKn B K xs = ([], ck)) := by
          rw [Hid, D0.out, HEX.out, if_pos hc0]
          exact if_pos hc0
        have hc1 : Hid (ck ≠ 0) := hc0
        clear hc0 HEX HCK2
        go_wp2_with fail
        go_ret2
        exact peelPost_err ED.out hc1.out (HFr.out.trans HF5.out)
    · obtain rfl : i = n := by omega
      have htk : xs.take i = xs := List.take_of_length_le (by rw [HL.out]; exact Nat.le_refl _)
      have hdr : xs.drop i = [] := List.drop_eq_nil_of_le (by rw [HL.out]; exact Nat.le_refl _)
      have he0 : symsErr B K xs = 0 := by rw [HE.out, hdr]; rfl
      have ED : Hid (peelKn B K xs = (peelF b xs, 0)) := by rw [Hid, D0.out, if_neg (by simp [he0])]
      have HX : Hid (∀ x ∈ xs, 0 ≤ x.id ∧ x.id ≤ 9999 ∧ x.data.length = K) := fun x hx => by
        obtain ⟨_, h1, h2⟩ := codeCheck_ok (HA.out x (by rw [htk]; exact hx))
        exact ⟨h1.1, h1.2, by omega⟩
      obtain ⟨A9, c9, rfl, ⟨hc9, hm9⟩, hs9⟩ := HO.out.lowOut sSm
      rw [htk, HL.out] at hs9 hc9
      rw [htk, HL.out] at HD
      have HK0 : Hid (KnM K wr (fun y => y < wr.heap.size ∧ y ≠ d ∧ y ≠ g) g (List.replicate b none)) := (HKW.out.chg HC.out (by omega) fun y hy => ⟨hy.1, hy.2.1⟩).more fun y hy => ⟨Nat.lt_of_lt_of_le hy.1 HC.out.size, hy.2⟩
      have HS0 : Hid (Sl 2 (eLow w.heap.size eSm) wr (fun y => y < wr.heap.size ∧ y ≠ d ∧ y ≠ g) A9 i xs) := hs9.more (sSm.low _) fun y hy => ⟨hy.1, by omega, by omega⟩
      have HR0 : Hid (∃ f, nones (List.replicate b (none : Option (List UInt8))) < f ∧ pRun f (List.replicate b none) xs = peelF b xs) := ⟨b + 1, by unfold nones; rw [List.countP_replicate]; simp, rfl⟩
      have hi60 : i ≤ 60 := hn
      clear hs9 htk hdr he0 HO HE HA hc9 hm9
      go_wp2_with fail
      go_loopw [47] (fun s47 wr => ∃ (A9 : Option Addr) (n9 c9 : Nat) (kn : Kn) (op : List Sm), Hid (wr.heap[d]? = some (.cells #[.slice (some ⟨g, 0, none⟩) b b, .slice A9 n9 c9] 110 (0, 0))) ∧ n9 ≤ 60 ∧ Hid (KnM K wr (fun y => y < wr.heap.size ∧ y ≠ d ∧ y ≠ g) g kn) ∧ kn.length = b ∧ Hid (KnLen K kn) ∧ Hid (Sl 2 (eLow w.heap.size eSm) wr (fun y => y < wr.heap.size ∧ y ≠ d ∧ y ≠ g) A9 n9 op) ∧ Hid (∀ x ∈ op, 0 ≤ x.id ∧ x.id ≤ 9999 ∧ x.data.length = K) ∧ Hid (∃ f, nones kn < f ∧ pRun f kn op = peelF b xs) ∧ Hid (Fr w wr)) (fun _ wr => nilsAt g wr)
      case atStart => exact ⟨A9, i, c9, _, xs, HD, hi60, HK0, by simp, (good_none b K fun _ => True).all, HS0, HX, HR0, HFr⟩
      case round =>
        obtain ⟨A9, n9, c9, kn, op, HD, hn9, HK, hkl, HKK, HS, HX, HR, HF⟩ := hrel
        obtain ⟨wo, rfl⟩ : ∃ wo : World, wo = wr := ⟨_, rfl⟩
        go_wp2_with fail
        (with_reducible refine (round_any _ b K w.heap.size d g _ A9 n9 c9 kn op ⟨b1, b2⟩ hK hkl HKK.out HD.out HK.out (fun x h => h) (by omega) (by omega) (by omega) HS.out hn9 HX.out).mono ?_)
        rintro e w5 ⟨A', n', c', rfl, hd', hn', hk', hs', hc'⟩
        have HF5 : Hid (Fr w w5) := hc'.fr HF.out fun y hy => by omega
        have HD5 := Lib.hid hd'
        have HK5 := Lib.hid hk'
        have HS5 := Lib.hid hs'
        have hle := nilsAt_kn HK.out
        have hle' := nilsAt_kn HK5.out
        have hnn := pRound_nones op kn
        obtain ⟨f, hf1, hf2⟩ := HR.out
        obtain ⟨f, rfl⟩ : ∃ f', f = f' + 1 := ⟨f - 1, by omega⟩
        rw [pRun] at hf2
        cases hm : (pRound kn op).2.2 with
        | true =>
          rw [hm, if_pos rfl] at hf2
          rw [hm] at hnn
          simp only [if_true] at hnn
          have HR' : Hid (∃ f, nones (pRound kn op).1 < f ∧ pRun f (pRound kn op).1 (pRound kn op).2.1 = peelF b xs) := ⟨f, by omega, hf2⟩
          have HX' : Hid (∀ x ∈ (pRound kn op).2.1, 0 ≤ x.id ∧ x.id ≤ 9999 ∧ x.data.length = K) := fun x hx => HX.out x (pRound_left hx)
          have HKK' : Hid (KnLen K (pRound kn op).1) := (pRound_good (b := kn.length) (G := fun _ => True) hK (.of trivial) ⟨rfl, HKK.out, fun _ _ _ => .of trivial⟩ fun x hx => ⟨(HX.out x hx).2.2, trivial⟩).all
          have hkl' : (pRound kn op).1.length = b := by rw [pRound_len, hkl]
          have hmeas : Hid (nilsAt g w5 < nilsAt g wo) := by rw [Hid, hle, hle']; omega
          clear hd' hk' hs' hc' hle hle' hnn hf1 hf2 hm
          go_wp2_with fail
          go_roundw
          case rel => exact ⟨A', n', c', _, _, HD5, hn', HK5, hkl', HKK', HS5, HX', HR', HF5⟩
          case measure => exact hmeas.out
        | false =>
          rw [hm, if_neg (by simp)] at hf2
          have hlp : (peelF b xs).length = b := length_peelF b xs
          have HKf : Hid (KnM K w5 (fun y => y < w5.heap.size ∧ y ≠ g) g (peelF b xs)) := by
            rw [← hf2]
            exact HK5.out.more fun y hy => ⟨hy.1, hy.2.2⟩
          have hd5 := HD5.out
          (obtain ⟨y0, y1⟩ := box2_ hd5)
          clear hd5 hd' hk' hs' hc' hle hle' hnn hf1 hf2 hm
          go_wp2_with fail
          go_ret2
          rw [ED.out]
          exact ⟨HF5.out, .inr ⟨rfl, g, b, rfl, hlp, ⟨b1, b2⟩, HKf.out⟩⟩

set_option maxRecDepth 100000 in
set_option maxHeartbeats 1000000 in
theorem peelKn_any (w : World) (B K : Int) (wB : wfI B) (wK : wfI K) (A : Option Addr) (n c : Nat) (xs : List Sm) (h : Sl 2 eSm w (LT w.heap.size) A n xs) (hnm : n ≤ maxLen) :
    Calls Try.prog 49 #[.agg #[.int .i64 B, .int .i64 K], .slice A n c] w (PeelPost K w (peelKn B K xs)) := by
  by_cases hck : cutCheck B K = 0
  · obtain ⟨c1, c2, c3, c4, _⟩ := cutCheck_ok hck
    by_cases hn : n ≤ 60
    · obtain ⟨k, rfl⟩ := Int.eq_ofNat_of_zero_le (show 0 ≤ K by omega)
      obtain ⟨b, hb⟩ := Int.eq_ofNat_of_zero_le (show 0 ≤ blocksOf B k by omega)
      exact peelKn_good w B k b A n c xs h hn hck hb
    · have ED : Hid (peelKn B K xs = ([], 2)) := by
        unfold peelKn Hid
        rw [if_neg (by simp [hck]), if_pos (by rw [h.1]; omega)]
      have hn1 : decide ((60 : Int) < (n : Int)) = true := by simp; omega
      have hn2 : decide (60 < n) = true := by simp; omega
      have HC := Lib.hid hck
      unfold maxLen at hnm
      clear h hck c1 c2 c3 c4 hn
      go_enter Try.func49, Try.ntmps49
      go_wp2_with fail
      (with_reducible refine (cutCheck_any _ _ _ wB wK).mono ?_)
      rw [HC.out]
      rintro e v1 ⟨rfl, hf⟩
      have HF1 : Hid (Fr w v1) := Fr.trans (by (repeat' (first | exact Below.refl _ _ | refine below_drewN ?_ _ | refine Below.drew ?_ | refine frA ?_ _))) hf
      clear hf
      go_wp2_with fail
      go_ret2
      exact peelPost_err ED.out (by decide) HF1.out
  · obtain ⟨ck, hk⟩ : ∃ ck, ck = cutCheck B K := ⟨_, rfl⟩
    have ED : Hid (peelKn B K xs = ([], ck)) := by
      unfold peelKn Hid
      rw [if_pos hck, hk]
    have e1 : (ck != 0) = true := by rw [hk, bne_iff_ne]; exact hck
    have hc1 : Hid (ck ≠ 0) := by rw [hk]; exact hck
    (have Hk := Lib.hid hk; clear hk)
    clear h hck
    go_enter Try.func49, Try.ntmps49
    go_wp2_with fail
    (with_reducible refine (cutCheck_any _ _ _ wB wK).mono ?_)
    rw [← Hk.out]
    rintro e v1 ⟨rfl, hf⟩
    have HF1 : Hid (Fr w v1) := Fr.trans (by (repeat' (first | exact Below.refl _ _ | refine below_drewN ?_ _ | refine Below.drew ?_ | refine frA ?_ _))) hf
    clear hf
    go_wp2_with fail
    go_ret2
    exact peelPost_err ED.out hc1.out HF1.out
end Go.Proofs.Ytnfjghldcopaaaa
namespace Go.Proofs.Ytnfjghldcopaaaa
open Go.RowKit
attribute [local irreducible] wpList

/-- peel.Known, where what it tells is known. -/
theorem peelKn_eq (w : World) (B K : Int) (wB : wfI B) (wK : wfI K) (A : Option Addr) (n c : Nat) (xs : List Sm) (h : Sl 2 eSm w (LT w.heap.size) A n xs) (hnm : n ≤ maxLen) (kn : Kn) (E : peelKn B K xs = (kn, 0)) :
    Calls Try.prog 49 #[.agg #[.int .i64 B, .int .i64 K], .slice A n c] w fun e w' => ∃ g m : Nat, e = .returned (.tuple #[.slice (some ⟨g, 0, none⟩) m m, .int .i64 0]) ∧ kn.length = m ∧ (1 ≤ m ∧ m ≤ 24) ∧ KnM K.toNat w' (fun y => y < w'.heap.size ∧ y ≠ g) g kn ∧ Fr w w' :=
  (peelKn_any w B K wB wK A n c xs h hnm).mono fun e w' ⟨hf, h⟩ => by
    rw [E] at h
    rcases h with ⟨_, h, _⟩ | ⟨_, g, m, h1, h2, h3, h4⟩
    · exact absurd rfl h
    · exact ⟨g, m, h1, h2, h3, h4, hf⟩
theorem KnM.some {K : Nat} {w : World} {S : Nat → Prop} {g i : Nat} {kn : Kn} {l : List UInt8} (h : KnM K w S g kn) (hi : kn[i]? = some (some l)) : ∃ ad c, w.cell? ⟨g, i, none⟩ = some (.slice (some ad) K c) ∧ (K ≤ c ∧ c ≤ 16) ∧ Sl 1 eByte w S (some ad) K l := by
  obtain ⟨vs, h1, h2, h3⟩ := h
  obtain ⟨v, hv, hk⟩ := h3 i _ hi
  rcases hk with ⟨hk, _⟩ | ⟨l', ad, c, e1, e2, e3, e4⟩
  · cases hk
  · injection e1 with e1
    subst e1 e2
    exact ⟨ad, c, by rw [cell_of_heap h1, List.getElem?_toArray]; exact hv, e3, e4⟩
theorem KnM.none {K : Nat} {w : World} {S : Nat → Prop} {g i : Nat} {kn : Kn} (h : KnM K w S g kn) (hi : kn[i]? = Option.some Option.none) : w.cell? ⟨g, i, .none⟩ = Option.some (.slice .none 0 0) := by
  obtain ⟨vs, h1, h2, h3⟩ := h
  obtain ⟨v, hv, hk⟩ := h3 i _ hi
  rcases hk with ⟨_, rfl⟩ | ⟨l', ad, c, e1, _⟩
  · rw [cell_of_heap h1, List.getElem?_toArray]; exact hv
  · cases e1

set_option maxRecDepth 100000 in
set_option maxHeartbeats 4000000 in
theorem peeled_any (w : World) : Calls Try.prog 48 #[] w fun e w' => e = .returned (.bool true) ∧ Fr w w' := by
  have E1 : Hid (symsOf 2 1 [5, 6] [0, 1] = [⟨0, [5]⟩, ⟨1, [6]⟩]) := by unfold Hid; decide +kernel
  have E2 : Hid (peelKn 2 1 [⟨0, [5]⟩] = ([some [5], none], 0)) := by unfold Hid; decide +kernel
  have E3 : Hid (peelKn 2 1 [⟨0, [5]⟩, ⟨1, [6]⟩] = ([some [5], some [6]], 0)) := by unfold Hid; decide +kernel
  have w2 : wfI 2 := by decide
  have w1 : wfI 1 := by decide
  go_enter Try.func48, Try.ntmps48
  go_wp2_with fail
  refine (symbols_any _ 2 1 w2 w1 _ _ _ [5, 6] ?_ (by omega) (by unfold maxLen; omega) _ _ _ [0, 1] ?_ (by omega) (by unfold maxLen; omega)).mono ?_
  · apply Sl.litBytes (hn := rfl)
    · (repeat' (with_reducible (first | (refine heap_new ?_; (first | (simp; done) | rfl); done) | refine heap_dn ?_ | refine heap_d ?_ | refine heap_old ?_)))
    · (simp [LT] <;> omega)
    · rfl
  · apply Sl.litInts (hn := rfl)
    · (repeat' (with_reducible (first | (refine heap_new ?_; (first | (simp; done) | rfl); done) | refine heap_dn ?_ | refine heap_d ?_ | refine heap_old ?_)))
    · (simp [LT] <;> omega)
    · intro x hx; simp at hx; rcases hx with rfl | rfl <;> decide
    · rfl
  rw [E1.out]
  rintro e v1 ⟨v, rfl, ho, hf⟩
  obtain ⟨A8, c8, rfl, ⟨hc8, hm8⟩, hs8⟩ := ho.toNw sSm
  have HP1 : Hid (v1.heap[w.heap.size]? = some (.cells #[.int .i64 2, .int .i64 1] 47 (0, 0))) := blk_go (by (repeat' (with_reducible (first | (refine heap_new ?_; (first | (simp; done) | rfl); done) | refine heap_dn ?_ | refine heap_d ?_ | refine heap_old ?_)))) hf
  have HF1 : Hid (Fr w v1) := Fr.trans (by (repeat' (first | exact Below.refl _ _ | refine below_drewN ?_ _ | refine Below.drew ?_ | refine frA ?_ _))) hf
  have HS8 : Hid (Sl 2 eSm v1 (LT v1.heap.size) A8 2 [⟨0, [5]⟩, ⟨1, [6]⟩]) := hs8.more sSm fun b hb => hb.2
  have HS1 : Hid (Sl 2 eSm v1 (LT v1.heap.size) A8 1 [⟨0, [5]⟩]) := HS8.out.pre (k := 1) (by omega)
  have hp1 := HP1.out
  (obtain ⟨x0, x1⟩ := box2_ hp1)
  have hc82 : 2 ≤ c8 := hc8
  have hq1 : (1 : Int) ≤ (c8 : Int) := by omega
  have hq2 : 1 ≤ c8 := by omega
  clear ho hf hs8 hp1 hc8
  go_upto_region 4 with fail
  go_cut [3, 4] (fun s3 s4 wx => ∃ g m, s3 = .slice (some ⟨g, 0, none⟩) 2 2 ∧ s4 = .int .i64 0 ∧ Hid (KnM 1 wx (fun y => y < wx.heap.size ∧ y ≠ g) g [some [5], none]) ∧ Hid (Fr v1 wx))
  case first =>
    have HB : Hid (v1.drew.heap[w.heap.size]? = some (.cells #[.int .i64 2, .int .i64 1] 47 (0, 0))) := HP1.out
    go_region_held3 (fun w' => w'.cell? ⟨w.heap.size, 0, none⟩ = some (.int .i64 2) ∧ w'.cell? ⟨w.heap.size, 1, none⟩ = some (.int .i64 1)) (first | exact box2_ HB.out | go_keep)
      (first
        | (go_at_call 49; (with_reducible refine (peelKn_eq v1.drew 2 1 w2 w1 _ _ _ [⟨0, [5]⟩] (HS1.out.go sSm (Below.refl _ _).drew) (by decide) _ E2.out).mono ?_); rintro e w5 ⟨g, m, rfl, hm5, _, hk5, hf5⟩; have HK5 := Lib.hid hk5; have HM5 := Lib.hid hm5; have HF5 : Hid (Fr v1 w5) := (Fr.trans (Below.refl _ _).drew hf5); have HB := Lib.hid (blk_go (heap_d HP1.out) hf5); clear hk5 hf5 hm5)
        | fail)
    all_goals
      obtain rfl : m = 2 := HM5.out.symm
      go_wp2_with fail
      go_meet
      exact ⟨g, 2, rfl, rfl, HK5.out, HF5.out⟩
  case rest =>
    obtain ⟨g1, m1, rfl, rfl, HK1, HF2⟩ := hcut
    obtain ⟨v2, rfl⟩ : ∃ v2, v2 = wc := ⟨_, rfl⟩
    have HP2 := Lib.hid (blk_go HP1.out HF2.out)
    have hp2 := HP2.out
    clear x0 x1
    (obtain ⟨x0, x1⟩ := box2_ hp2)
    clear hp2
    go_wp2_with fail
    refine (peelKn_eq _ 2 1 w2 w1 _ _ _ [⟨0, [5]⟩, ⟨1, [6]⟩] (HS8.out.go sSm HF2.out) (by decide) _ E3.out).mono ?_
    rintro e v3 ⟨g2, m2, rfl, hm2, _, hk2, hf⟩
    obtain rfl : m2 = 2 := hm2.symm
    have hk1 := HK1.out.fr hf fun y hy => hy.1
    obtain ⟨a1, d1, x5, _, hs1⟩ := hk1.some (i := 0) (l := [5]) rfl
    have x6 := hk1.none (i := 1) rfl
    obtain ⟨a2, d2, x7, _, hs2⟩ := hk2.some (i := 1) (l := [6]) rfl
    have HF3 : Hid (Fr w v3) := (HF1.out.trans HF2.out).trans hf
    have HS5 : Hid (Sl 1 eByte v3 (LT v3.heap.size) (some a1) 1 [5]) := hs1.more sByte fun y hy => Nat.lt_of_lt_of_le hy.1 hf.size
    have HS6 : Hid (Sl 1 eByte v3 (LT v3.heap.size) (some a2) 1 [6]) := hs2.more sByte fun y hy => hy.1
    have l1 := World.block_lt_of_cell? v3 _ x5
    have l2 := World.block_lt_of_cell? v3 _ x7
    clear hk1 hk2 hf hs1 hs2 x0 x1
    go_wp2_with fail
    refine (equalBlock_any _ _ Any _ _ _ _ _ _ [5] [5] (HS5.out.go sByte (by (repeat' (first | exact Below.refl _ _ | refine below_drewN ?_ _ | refine Below.drew ?_ | refine frA ?_ _)))) ?_ (by decide)).mono ?_
    · apply Sl.litBytes (hS := trivial) (hn := rfl)
      · (repeat' (with_reducible (first | (refine heap_new ?_; (first | (simp; done) | rfl); done) | refine heap_dn ?_ | refine heap_d ?_ | refine heap_old ?_)))
      · rfl
    rintro e v4 ⟨rfl, m4, rfl⟩
    go_wp2_with (first | (refine wpList_nil rfl (.tmp 51) 27 _ 5 rfl Try.underlying27 rfl true rfl ?_) | fail)
    refine (equalBlock_any _ _ Any _ _ _ _ _ _ [6] [6] (HS6.out.go sByte (by (repeat' (first | exact Below.refl _ _ | refine below_drewN ?_ _ | refine Below.drew ?_ | refine frA ?_ _)))) ?_ (by decide)).mono ?_
    · apply Sl.litBytes (hS := trivial) (hn := rfl)
      · (repeat' (with_reducible (first | (refine heap_new ?_; (first | (simp; done) | rfl); done) | refine heap_dn ?_ | refine heap_d ?_ | refine heap_old ?_)))
      · rfl
    rintro e v5 ⟨rfl, m5, rfl⟩
    go_wp2_with fail
    go_ret
    exact ⟨rfl, HF3.out.trans (by (repeat' (first | exact Below.refl _ _ | refine below_drewN ?_ _ | refine Below.drew ?_ | refine frA ?_ _)))⟩
end Go.Proofs.Ytnfjghldcopaaaa
namespace Go.Proofs.Ytnfjghldcopaaaa
open Go.RowKit

section
variable {P : Program} {ops : Array Oper} {Q : Exit → Act → World → Prop} {md : Region.Mode} {S : World → Prop}
theorem held_at {i : Nat} {oi : Oper} {rest : List Oper} (hd : ops.toList.drop i = oi :: rest) : ops[i]? = some oi := by
  rw [← Array.getElem?_toList, ← List.head?_drop, hd]; rfl
/-- The beginning, the marks written out. -/
theorem held_begin {id n : Nat} {bs : Array Bool} {a : Act} {w : World} (hn : ops.size = n) (hb : Array.replicate n false = bs) (hm : P.follows .mixedOrders = true) (hS : S w.drew)
    (h : S w.drew → wpAnyH P .any ops Q S n bs a w.drew) : (Code.region id ops true).wp P Q a w := by
  subst hn hb
  exact wp_region_held_drew hm hS h
/-- One that yields its value where S holds. -/
theorem held_take {i : Nat} {oi : Oper} {rest : List Oper} {v : Value} {fuel : Nat} {listed l' : Array Bool} {a a' : Act} {w : World} (hd : ops.toList.drop i = oi :: rest)
    (hs : Region.noSelect ops = true) (hf : Region.free md ops listed i = true) (hr : (Region.ready md ops listed).contains i = true)
    (hQ : ∀ c a w, Q (.panic c) (a.put oi.dst v) w → Q (.panic c) a w) (hw : Region.wanted oi (yielded ops a.tmps) = true) (hv : ∀ w, S w → (execOp a.eval oi).run P w = .ok (.value v) w) (hS : S w)
    (ha : a.put oi.dst v = a') (hl : listed.setIfInBounds i true = l') (h : wpAnyH P md ops Q S fuel l' a' w) : wpAnyH P md ops Q S (fuel + 1) listed a w := by
  subst ha hl
  exact wpAnyH_take (held_at hd) hs hf hr hQ (.inl ⟨hw, hv⟩) hS h
/-- One that isn't wanted. -/
theorem held_skip {i : Nat} {oi : Oper} {rest : List Oper} {fuel : Nat} {listed l' : Array Bool} {a a' : Act} {w : World} (hd : ops.toList.drop i = oi :: rest)
    (hs : Region.noSelect ops = true) (hf : Region.free md ops listed i = true) (hr : (Region.ready md ops listed).contains i = true)
    (hQ : ∀ c a w, Q (.panic c) (a.put oi.dst undef) w → Q (.panic c) a w) (hw : Region.wanted oi (yielded ops a.tmps) = false) (hS : S w)
    (ha : a.put oi.dst undef = a') (hl : listed.setIfInBounds i true = l') (h : wpAnyH P md ops Q S fuel l' a' w) : wpAnyH P md ops Q S (fuel + 1) listed a w := by
  subst ha hl
  exact wpAnyH_take (held_at hd) hs hf hr hQ (.inr ⟨hw, rfl⟩) hS h
/-- One that comes up alone. -/
theorem held_one {i : Nat} {oi : Oper} {rest : List Oper} {fuel : Nat} {listed : Array Bool} {a : Act} {w : World} (hd : ops.toList.drop i = oi :: rest) (hr : Region.ready md ops listed = [i])
    (h : ∀ K' : Act → World → Prop, Shut (∀ a w, S w → (S w → wpAnyH P md ops Q S fuel (listed.setIfInBounds i true) a w) → K' a w) → if Region.wanted oi (yielded ops a.tmps) = true then Oper.wp P oi a w K' Q else K' (a.put oi.dst undef) w) : wpAnyH P md ops Q S (fuel + 1) listed a w :=
  wpAnyH_ready hr (by simp) (AllReadyH.cons (held_at hd) h AllReadyH.nil)
/-- Back into the region behind a call. -/
theorem held_back {fuel : Nat} {l l' : Array Bool} {a a' : Act} {w : World} {K' : Act → World → Prop} (hK : Shut (∀ a w, S w → (S w → wpAnyH P md ops Q S fuel l a w) → K' a w)) (ha : a = a') (hl : l = l') (hS : S w) (h : S w → wpAnyH P md ops Q S fuel l' a' w) : K' a w := by
  subst ha hl
  exact hK.out a w hS h
end
end Go.Proofs.Ytnfjghldcopaaaa
namespace Go.Proofs.Ytnfjghldcopaaaa
open Go.RowKit
attribute [local irreducible] wpList

theorem peelKn_ok {B K : Nat} {c : List UInt8} {xs : List Sm} (h : SymsOk B K c xs) : peelKn B K xs = (peelF (cutF K B c).length xs, 0) := by
  obtain ⟨q1, q2, q3, hall, hK⟩ := cutF_facts h.cut h.len
  have he : symsErr B K xs = 0 := symsErr_ok.2 fun x hx => by
    obtain ⟨h1, h2, h3, h4⟩ := h.hold x hx
    exact codeCheck_of h.cut ⟨h3, h4⟩ (by have : x.data.length = K := h1.2; omega)
  unfold peelKn
  rw [if_neg (by simp [h.cut]), if_neg (by have := h.many; omega), if_neg (by simp [he]), ← q3, Int.toNat_natCast]
def allK (kn : Kn) (k : Nat) : Bool := (List.range k).all fun j => kn.isK j
theorem allK_succ (kn : Kn) (k : Nat) : allK kn (k + 1) = (allK kn k && kn.isK k) := by
  unfold allK
  rw [List.range_succ, List.all_append]; simp
theorem allK_iff {kn : Kn} {b : Nat} : allK kn b = true ↔ ∀ k, k < b → kn.isK k = true := by
  unfold allK
  simp [List.all_eq_true]
theorem Sl.rowAt {w : World} {S : Nat → Prop} {A : Option Addr} {n k : Nat} {X : List (List UInt8)} (h : Sl 1 eBlock w S A n X) (hk : k < n) : ∃ ad A' n' c' l, A = some ad ∧ X[k]? = some l ∧ w.cell? (ad.add k) = some (.slice A' n' c') ∧ n' ≤ lim ∧ Sl 1 eByte w S A' n' l := by
  obtain ⟨ad, e, hE⟩ := h.els (by omega)
  obtain ⟨A', n', c', l, h1, h2, h3, h4⟩ := hE.block hk
  exact ⟨ad, A', n', c', l, e, h1, h2, h3, h4⟩

set_option maxRecDepth 100000 in
set_option maxHeartbeats 4000000 in
theorem peelTrue_good (w : World) (K : Nat) (A : Option Addr) (n c : Nat) (cargo : List UInt8) (h : Sl 1 eByte w (LT w.heap.size) A n cargo) (hnc : n ≤ c) (hcm : c ≤ maxLen) (A2 : Option Addr) (n2 c2 : Nat) (ids : List Int) (h2 : Sl 1 eInt w (LT w.heap.size) A2 n2 ids) (hnc2 : n2 ≤ c2) (hcm2 : c2 ≤ maxLen) (A3 : Option Addr) (n3 c3 : Nat) (more : List Int) (h3 : Sl 1 eInt w (LT w.heap.size) A3 n3 more) (hnc3 : n3 ≤ c3) (hcm3 : c3 ≤ maxLen) (hck : cutCheck n K = 0) (hfew : n2 + n3 ≤ 60) :
    Calls Try.prog 11 #[.agg #[.int .i64 n, .int .i64 K], .slice A n c, .slice A2 n2 c2, .slice A3 n3 c3] w fun e w' => e = .returned (.bool true) ∧ Fr w w' := by
  have hl := h.1
  obtain ⟨q1, q2, q3, hall, hK⟩ := cutF_facts hck hl
  have hn : 1 ≤ n ∧ n ≤ 360 := by have := (cutCheck_ok hck).1; omega
  have hok := symsOk_of hck hl ids
  have hok2 := symsOk_of hck hl more
  have hxl := symsOf_len hck hl ids
  have hyl := symsOf_len hck hl more
  rw [h2.1] at hxl
  rw [h3.1] at hyl
  have hcu := cutUp_ok hck hl
  obtain ⟨XS, hXS⟩ : ∃ XS, XS = symsOf n K cargo ids := ⟨_, rfl⟩
  obtain ⟨YS, hYS⟩ : ∃ YS, YS = symsOf n K cargo more := ⟨_, rfl⟩
  rw [← hXS] at hok hxl
  rw [← hYS] at hok2 hyl
  have hxl2 : XS.length = n2 := by omega
  have hyl2 : YS.length = n3 := by omega
  have hXY : (XS ++ YS).length ≤ 60 := by rw [List.length_append]; omega
  have hok3 : SymsOk n K cargo (XS ++ YS) := ⟨hck, hl, hXY, fun x hx => by
    rcases List.mem_append.1 hx with hx | hx
    · exact hok.all x hx
    · exact hok2.all x hx⟩
  have hEA := peelKn_ok hok
  have hEB := peelKn_ok hok3
  obtain ⟨X, hX⟩ : ∃ X, X = cutF K n cargo := ⟨_, rfl⟩
  have hTA : ∀ k x, (peelF X.length XS)[k]? = some (some x) → X[k]? = some x := fun k x => by rw [hX]; exact peel_true hok
  have hTB : ∀ k x, (peelF X.length (XS ++ YS))[k]? = some (some x) → X[k]? = some x := fun k x => by rw [hX]; exact peel_true hok3
  have hTM : ∀ k, (peelF X.length XS).isK k = true → (peelF X.length (XS ++ YS)).isK k = true := fun k hk => peel_more (fun x hx => List.mem_append_left _ hx) hk
  have hTW : (∀ k, k < X.length → (peelF X.length XS).isK k = true) → decodeF n K XS = (cargo, 0) := by rw [hX]; exact peel_whole hok
  rw [← hX] at hEA hEB hcu q1 q2 q3 hall
  obtain ⟨b, hb⟩ : ∃ b, b = X.length := ⟨_, rfl⟩
  rw [← hb] at hEA hEB hTA hTB hTM hTW q1 q2 q3
  obtain ⟨KA, hKA⟩ : ∃ KA, KA = peelF b XS := ⟨_, rfl⟩
  obtain ⟨KB, hKB⟩ : ∃ KB, KB = peelF b (XS ++ YS) := ⟨_, rfl⟩
  have hKAl : KA.length = b := by rw [hKA]; exact length_peelF _ _
  have hKBl : KB.length = b := by rw [hKB]; exact length_peelF _ _
  rw [← hKA] at hEA hTA hTM hTW
  rw [← hKB] at hEB hTB hTM
  obtain ⟨out, er, hD⟩ : ∃ out er, decodeF n K XS = (out, er) := ⟨_, _, rfl⟩
  have hTD : allK KA b = true → er = 0 ∧ out = cargo := fun h => by
    have := hTW (allK_iff.1 h)
    rw [hD] at this
    injection this with e1 e2
    exact ⟨e2, e1⟩
  obtain ⟨K1, K2⟩ := hK
  obtain ⟨n1', n2'⟩ := hn
  have wn : wfI (n : Int) := wfI.mk (by omega)
  have wK : wfI (K : Int) := wfI.mk (by omega)
  have t3 : decide ((n2 : Int) + (n3 : Int) > 60) = false := by simp; omega
  have hn2s : n2 ≤ 60 := by omega
  have hn3s : n3 ≤ 60 := by omega
  have hxm : XS.length ≤ maxLen := by unfold maxLen; omega
  obtain ⟨XY, hXYe⟩ : ∃ XY, XY = XS ++ YS := ⟨_, rfl⟩
  have hxym : XY.length ≤ maxLen := by rw [hXYe]; unfold maxLen; omega
  rw [← hXYe] at hEB
  (have HTA := Lib.hid hTA; clear hTA; have HTB := Lib.hid hTB; clear hTB; have HTM := Lib.hid hTM; clear hTM; have HTD := Lib.hid hTD; clear hTD; have HEA := Lib.hid hEA; clear hEA; have HEB := Lib.hid hEB; clear hEB; have HD := Lib.hid hD; clear hD; have Hcu := Lib.hid hcu; clear hcu; have HXS := Lib.hid hXS; clear hXS; have HYS := Lib.hid hYS; clear hYS; have HXYe := Lib.hid hXYe; clear hXYe; have Hxm := Lib.hid hxm; clear hxm; have Hxym := Lib.hid hxym; clear hxym; have Hb := Lib.hid hb; clear hb; have Hxl2 := Lib.hid hxl2; clear hxl2; have Hyl2 := Lib.hid hyl2; clear hyl2)
  (have H := Lib.hid h; clear h; have H2 := Lib.hid h2; clear h2; have H3 := Lib.hid h3; clear h3)
  clear hl hck hall q3 hok hok2 hok3 hxl hyl hTW hKA hKB hXY hX
  go_enter Try.func11, Try.ntmps11
  go_wp2_with fail
  refine (cutCut_any _ _ _ _ _ _ cargo (H.out.go sByte (by (repeat' (first | exact Below.refl _ _ | refine below_drewN ?_ _ | refine Below.drew ?_ | refine frA ?_ _)))) hnc hcm wn wK).mono ?_
  rw [Hcu.out]
  rintro e v1 ⟨v, rfl, ho, hf⟩
  obtain ⟨A9, c9, rfl, ⟨hc9, hm9⟩, hs9⟩ := ho.slC wBlock (by decide)
  rw [← Hb.out] at hs9 hc9 ⊢
  have HP1 : Hid (v1.heap[w.heap.size]? = some (.cells #[.int .i64 n, .int .i64 K] 47 (0, 0))) := blk_go (by (repeat' (with_reducible (first | (refine heap_new ?_; (first | (simp; done) | rfl); done) | refine heap_dn ?_ | refine heap_d ?_ | refine heap_old ?_)))) hf
  have HF1 : Hid (Fr w v1) := Fr.trans (by (repeat' (first | exact Below.refl _ _ | refine below_drewN ?_ _ | refine Below.drew ?_ | refine frA ?_ _))) hf
  have HS9 := Lib.hid hs9
  have hp1 := HP1.out
  (obtain ⟨x0, x1⟩ := box2_ hp1)
  clear hf hp1 ho hs9
  go_wp2_with fail
  (with_reducible refine (peeled_any _).mono ?_)
  rintro e v2 ⟨rfl, hf⟩
  have HP2 := Lib.hid (blk_go HP1.out hf)
  have HF2 : Hid (Fr w v2) := HF1.out.trans hf
  have HS2 := Lib.hid (HS9.out.go wBlock hf)
  have hp2 := HP2.out
  (obtain ⟨x0, x1⟩ := box2_ hp2)
  clear hf hp2 HP1 HF1 HS9
  go_wp2_with fail
  (with_reducible refine (symbols_any _ _ _ wn wK _ _ _ cargo (H.out.go sByte HF2.out) hnc hcm _ _ _ ids (H2.out.go sInt HF2.out) hnc2 hcm2).mono ?_)
  rw [← HXS.out]
  rintro e v3 ⟨v, rfl, ho, hf⟩
  obtain ⟨A8, c8, rfl, hc8, hs8⟩ := ho.toNw sSm
  rw [Hxl2.out] at hc8 hs8 ⊢
  have HC8 := Lib.hid hc8
  have HP3 := Lib.hid (blk_go HP2.out hf)
  have HF3 : Hid (Fr w v3) := HF2.out.trans hf
  have HS8 : Hid (Sl 2 eSm v3 (LT v3.heap.size) A8 n2 XS) := hs8.more sSm fun b hb => hb.2
  have HS3 := Lib.hid (HS2.out.go wBlock hf)
  have hp3 := HP3.out
  (obtain ⟨x0, x1⟩ := box2_ hp3)
  clear ho hf hs8 hc8 hp3 HP2 HS2
  have hn2m : n2 ≤ maxLen := by unfold maxLen; omega
  go_wp2_with fail
  (with_reducible refine (peelKn_eq _ _ _ wn wK _ _ _ XS HS8.out hn2m KA HEA.out).mono ?_)
  rintro e v4 ⟨g4, m4, rfl, hm4, _, hk4, hf⟩
  obtain rfl : m4 = b := hm4.symm.trans hKAl
  have HP4 := Lib.hid (blk_go HP3.out hf)
  have HF4 : Hid (Fr w v4) := HF3.out.trans hf
  have HS4 := Lib.hid (HS3.out.go wBlock hf)
  have HX4 := Lib.hid (HS8.out.go sSm hf)
  have HK4 := Lib.hid hk4
  have hp4 := HP4.out
  (obtain ⟨x0, x1⟩ := box2_ hp4)
  clear hf hp4 HP3 HS3 HS8 hk4 hm4
  go_upto_region 7 with fail
  go_cut [13, 14] (fun s13 s14 wx => ∃ g, s13 = .slice (some ⟨g, 0, none⟩) m4 m4 ∧ s14 = .int .i64 0 ∧ Hid (KnM K wx (fun y => y < wx.heap.size ∧ y ≠ g) g KB) ∧ Hid (Fr v4 wx))
  case first =>
    have HB : Hid (v4.drew.heap[w.heap.size]? = some (.cells #[.int .i64 n, .int .i64 K] 47 (0, 0))) := HP4.out
    have hb60 : n2 ≤ 60 ∧ n2 ≤ c8 ∧ c8 ≤ maxLen := ⟨by omega, HC8.out⟩
    have HFD : Hid (Fr w v4.drew) := HF4.out.drew
    have CS : Hid (Calls Try.prog 28 #[.agg #[.int .i64 n, .int .i64 K], .slice A n c, .slice A3 n3 c3] v4.drew fun e w' => ∃ Ay cy, e = .returned (.slice Ay n3 cy) ∧ (n3 ≤ cy ∧ cy ≤ maxLen) ∧ Sl 2 eSm w' (LT w'.heap.size) Ay n3 YS ∧ Fr v4 w') :=
      (symbols_any v4.drew _ _ wn wK _ _ _ cargo (H.out.go sByte HFD.out) hnc hcm _ _ _ more (H3.out.go sInt HFD.out) hnc3 hcm3).mono fun e w' ⟨v, he, ho, hf⟩ => by
        rw [← HYS.out] at ho
        obtain ⟨Ay, cy, rfl, hc, hs⟩ := ho.toNw sSm
        rw [Hyl2.out] at he hc hs
        exact ⟨Ay, cy, he, hc, hs.more sSm fun b hb => hb.2, (show Fr v4 v4.drew from (Below.refl _ _).drew).trans hf⟩
    have CC : Hid (∀ (w5 : World) Ay cy, (n3 ≤ cy ∧ cy ≤ maxLen) → Sl 2 eSm w5 (LT w5.heap.size) Ay n3 YS → Fr v4 w5 → Calls Try.prog 40 #[.slice (some ⟨w5.heap.size, 0, none⟩) 2 2] (w5.alloc (.cells #[.slice A8 n2 c8, .slice Ay n3 cy] 50)) fun e w' => ∃ A9 c9, e = .returned (.slice A9 XY.length c9) ∧ (XY.length ≤ c9 ∧ c9 ≤ maxLen) ∧ Sl 2 eSm w' (LT w'.heap.size) A9 XY.length XY ∧ Fr w5 w') := fun w5 Ay cy hc hs hf => by
      rw [HXYe.out]
      have F1 : Fr w5 (w5.alloc (.cells #[.slice A8 n2 c8, .slice Ay n3 cy] 50)) := frAlloc _ _
      exact (concatSyms2 _ _ _ _ _ _ _ _ _ XS YS (heap_new rfl) (HX4.out.go sSm (hf.trans F1)) (hs.go sSm F1) hb60 ⟨by omega, hc⟩).mono fun e w' ⟨A9, c9, a, b, c, d⟩ => ⟨A9, c9, a, b, c, F1.trans d⟩
    clear hb60
    go_region_held3 (fun w' => w'.cell? ⟨w.heap.size, 0, none⟩ = some (.int .i64 n) ∧ w'.cell? ⟨w.heap.size, 1, none⟩ = some (.int .i64 K)) (first | exact box2_ HB.out | exact box2_ (heap_old HB.out) | go_keep)
      (first
        | (go_at_call 28; (with_reducible refine CS.out.mono ?_); rintro e w5 ⟨Ay, cy, rfl, hcy, hsy, hf5⟩; have HB := Lib.hid (blk_go HP4.out hf5); have HG := Lib.hid hf5; have CC5 := Lib.hid (CC.out w5 Ay cy hcy hsy hf5); clear hf5 hsy hcy)
        | (go_at_call 40; (with_reducible refine CC5.out.mono ?_); rintro e w6 ⟨A12, c12, rfl, hc12, hs12, hf5⟩; have HB := Lib.hid (blk_go HB.out hf5); have HG := Lib.hid (HG.out.trans hf5); have HS12 := Lib.hid hs12; clear hf5 hs12 hc12)
        | (go_at_call 49; (with_reducible refine (peelKn_eq _ _ _ wn wK _ _ _ XY HS12.out Hxym.out KB HEB.out).mono ?_); rintro e w7 ⟨g7, m7, rfl, hm7, _, hk7, hf6⟩; have HB := Lib.hid (blk_go HB.out hf6); have HG := Lib.hid (HG.out.trans hf6); have HK7 := Lib.hid hk7; have HM7 := Lib.hid hm7; clear hf6 hk7 hm7)
        | fail)
    all_goals
      obtain rfl : m7 = m4 := HM7.out.symm.trans hKBl
      go_wp2_with fail
      go_meet
      exact ⟨_, rfl, rfl, HK7.out, HG.out⟩
  case rest =>
    obtain ⟨g5, rfl, rfl, HK5, HF45⟩ := hcut
    obtain ⟨v5, rfl⟩ : ∃ v5, v5 = wc := ⟨_, rfl⟩
    have HP5 := Lib.hid (blk_go HP4.out HF45.out)
    have HF5 : Hid (Fr w v5) := HF4.out.trans HF45.out
    have HA5 := Lib.hid (HK4.out.fr HF45.out fun y hy => hy.1)
    have HS5 := Lib.hid (HS4.out.go wBlock HF45.out)
    have HX5 := Lib.hid (HX4.out.go sSm HF45.out)
    have hg4 : Hid (v4.heap.size ≤ v5.heap.size) := HF45.out.size
    clear x0 x1 HP4 HS4 HX4
    go_wp2_with fail
    go_loopw [15, 70] (fun s15 s70 wr => ∃ k : Nat, k ≤ m4 ∧ s70 = .int .i64 k ∧ s15 = .bool (allK KA k) ∧ Hid (Fr v5 wr)) (fun _ i _ => m4 - (intOf i).toNat)
    case atStart => exact ⟨0, Nat.zero_le _, rfl, rfl, Below.refl _ _⟩
    case round =>
      obtain ⟨k, hk, rfl, rfl, HF⟩ := hrel
      obtain ⟨wh, hwh⟩ : ∃ wh, wh = allK KA k := ⟨_, rfl⟩
      have HSU := Lib.hid (allK_succ KA k)
      rw [← hwh] at HSU ⊢
      have HWH := Lib.hid hwh
      clear hwh
      by_cases hlt : k < m4
      · have HFw : Hid (Fr w wr) := HF5.out.trans HF.out
        have hka := HA5.out.fr HF.out fun y hy => Nat.lt_of_lt_of_le hy.1 hg4.out
        have hkb := HK5.out.fr HF.out fun y hy => hy.1
        obtain ⟨adx, A', n', c', l, rfl, hl, hcl, hnl, hsl⟩ := (HS5.out.go wBlock HF.out).rowAt hlt
        obtain ⟨xa, hxa⟩ : ∃ xa, KA[k]? = some xa := ⟨_, List.getElem?_eq_getElem (by omega)⟩
        obtain ⟨xb, hxb⟩ : ∃ xb, KB[k]? = some xb := ⟨_, List.getElem?_eq_getElem (by omega)⟩
        have hnm : n' ≤ maxLen := by unfold lim at hnl; unfold maxLen; omega
        have HSL := Lib.hid hsl
        have hSC : Hid (∀ w', Fr wr w' → w'.cell? (adx.add k) = some (.slice A' n' c')) := fun w' hf => (hf.cell (World.block_lt_of_cell? wr _ hcl)).trans hcl
        have CE : Hid (∀ (W : World) (A1 : Option Addr) (n1 c1 : Nat), Fr wr W → n1 ≤ maxLen → Sl 1 eByte wr (LT wr.heap.size) A1 n1 l → Calls Try.prog 26 #[.slice A1 n1 c1, .slice A' n' c'] W fun e w' => e = .returned (.bool true) ∧ Fr wr w') := fun W A1 n1 c1 hf hm hs =>
          (equalBlock_any W _ _ A1 A' n1 c1 n' c' l l (hs.go sByte hf) (HSL.out.go sByte hf) hm).mono fun e w' ⟨he, m, hw⟩ => ⟨by rw [he]; simp, by rw [hw]; exact hf.trans (frDrewN _ _)⟩
        have HLX := Lib.hid hl
        have hKm : K ≤ maxLen := by unfold maxLen; omega
        clear hl hsl
        cases xa with
        | none =>
          have hca := hka.none hxa
          have HA' : Hid (allK KA (k + 1) = false) := by
            rw [Hid, HSU.out]
            have : KA.isK k = false := by unfold Kn.isK; rw [List.getD_eq_getElem?_getD, hxa]; rfl
            rw [this, Bool.and_false]
          go_upto_region 13 with fail
          go_cut [15] (fun s15 wx => s15 = .bool false ∧ wr = wx)
          case first =>
            cases wh
            all_goals
              go_wp2_with (first | (refine wpList_nnil rfl (.tmp 77) 27 _ 5 rfl Try.underlying27 rfl false rfl ?_) | fail)
              go_meet
              exact ⟨rfl, rfl⟩
          case rest =>
            obtain ⟨rfl, rfl⟩ := hcut
            cases xb with
            | none =>
              have hcb := hkb.none hxb
              have hSD : Hid (∀ w', Fr wr w' → w'.cell? ⟨g5, k, none⟩ = some (.slice none 0 0)) := fun w' hf => (hf.cell (p := ⟨g5, k, none⟩) (World.block_lt_of_cell? wr _ hcb)).trans hcb
              clear hka hkb hxa hxb hcl hcb
              go_wp2_with fail
              refine held_begin (n := 37) (bs := #[false, false, false, false, false, false, false, false, false, false, false, false, false, false, false, false, false, false, false, false, false, false, false, false, false, false, false, false, false, false, false, false, false, false, false, false, false]) rfl rfl (by kernel_rfl) (S := fun w' => w'.cell? (adx.add k) = some (.slice A' n' c') ∧ w'.cell? ⟨g5, k, none⟩ = some (.slice none 0 0)) ⟨hSC.out _ (Below.refl _ _).drew, hSD.out _ (Below.refl _ _).drew⟩ (fun hHeld => ?_)
              ((first | (refine held_skip (i := 0) (a' := ?hA1) (l' := ?hL1) rfl (by kernel_rfl) (by kernel_rfl) (by kernel_rfl) (fun _ _ _ h => h) (by rfl) (by assumption) ?ha1 ?hl1 ?hh1; (case ha1 => (simp only [Act.put, List.setIfInBounds_toArray, List.set_cons_zero, List.set_cons_succ, Option.isNone_none, Option.isNone_some, Bool.not_true, Bool.not_false]; (try with_reducible rfl))); (case hl1 => (simp only [Act.put, List.setIfInBounds_toArray, List.set_cons_zero, List.set_cons_succ, Option.isNone_none, Option.isNone_some, Bool.not_true, Bool.not_false]; (try with_reducible rfl)))) | (refine held_take (i := 0) (v := ?hV1) (a' := ?hA1) (l' := ?hL1) rfl (by kernel_rfl) (by kernel_rfl) (by kernel_rfl) (fun _ _ _ h => h) (by rfl) ?hv1 (by assumption) ?ha1 ?hl1 ?hh1; (case hv1 => (intro w hSw; (try dsimp only at hSw); go_simp; (try simp only [run_eql_slice_nil _ 27 _ _ _ _ Try.underlying27, Result.andThen_ok]); (try with_reducible rfl))); (case ha1 => (simp only [Act.put, List.setIfInBounds_toArray, List.set_cons_zero, List.set_cons_succ, Option.isNone_none, Option.isNone_some, Bool.not_true, Bool.not_false]; (try with_reducible rfl))); (case hl1 => (simp only [Act.put, List.setIfInBounds_toArray, List.set_cons_zero, List.set_cons_succ, Option.isNone_none, Option.isNone_some, Bool.not_true, Bool.not_false]; (try with_reducible rfl))))); (first | (refine held_skip (i := 1) (a' := ?hA2) (l' := ?hL2) rfl (by kernel_rfl) (by kernel_rfl) (by kernel_rfl) (fun _ _ _ h => h) (by rfl) (by assumption) ?ha2 ?hl2 ?hh2; (case ha2 => (simp only [Act.put, List.setIfInBounds_toArray, List.set_cons_zero, List.set_cons_succ, Option.isNone_none, Option.isNone_some, Bool.not_true, Bool.not_false]; (try with_reducible rfl))); (case hl2 => (simp only [Act.put, List.setIfInBounds_toArray, List.set_cons_zero, List.set_cons_succ, Option.isNone_none, Option.isNone_some, Bool.not_true, Bool.not_false]; (try with_reducible rfl)))) | (refine held_take (i := 1) (v := ?hV2) (a' := ?hA2) (l' := ?hL2) rfl (by kernel_rfl) (by kernel_rfl) (by kernel_rfl) (fun _ _ _ h => h) (by rfl) ?hv2 (by assumption) ?ha2 ?hl2 ?hh2; (case hv2 => (intro w hSw; (try dsimp only at hSw); go_simp; (try simp only [run_eql_slice_nil _ 27 _ _ _ _ Try.underlying27, Result.andThen_ok]); (try with_reducible rfl))); (case ha2 => (simp only [Act.put, List.setIfInBounds_toArray, List.set_cons_zero, List.set_cons_succ, Option.isNone_none, Option.isNone_some, Bool.not_true, Bool.not_false]; (try with_reducible rfl))); (case hl2 => (simp only [Act.put, List.setIfInBounds_toArray, List.set_cons_zero, List.set_cons_succ, Option.isNone_none, Option.isNone_some, Bool.not_true, Bool.not_false]; (try with_reducible rfl))))); (first | (refine held_skip (i := 2) (a' := ?hA3) (l' := ?hL3) rfl (by kernel_rfl) (by kernel_rfl) (by kernel_rfl) (fun _ _ _ h => h) (by rfl) (by assumption) ?ha3 ?hl3 ?hh3; (case ha3 => (simp only [Act.put, List.setIfInBounds_toArray, List.set_cons_zero, List.set_cons_succ, Option.isNone_none, Option.isNone_some, Bool.not_true, Bool.not_false]; (try with_reducible rfl))); (case hl3 => (simp only [Act.put, List.setIfInBounds_toArray, List.set_cons_zero, List.set_cons_succ, Option.isNone_none, Option.isNone_some, Bool.not_true, Bool.not_false]; (try with_reducible rfl)))) | (refine held_take (i := 2) (v := ?hV3) (a' := ?hA3) (l' := ?hL3) rfl (by kernel_rfl) (by kernel_rfl) (by kernel_rfl) (fun _ _ _ h => h) (by rfl) ?hv3 (by assumption) ?ha3 ?hl3 ?hh3; (case hv3 => (intro w hSw; (try dsimp only at hSw); go_simp; (try simp only [run_eql_slice_nil _ 27 _ _ _ _ Try.underlying27, Result.andThen_ok]); (try with_reducible rfl))); (case ha3 => (simp only [Act.put, List.setIfInBounds_toArray, List.set_cons_zero, List.set_cons_succ, Option.isNone_none, Option.isNone_some, Bool.not_true, Bool.not_false]; (try with_reducible rfl))); (case hl3 => (simp only [Act.put, List.setIfInBounds_toArray, List.set_cons_zero, List.set_cons_succ, Option.isNone_none, Option.isNone_some, Bool.not_true, Bool.not_false]; (try with_reducible rfl))))); (first | (refine held_skip (i := 3) (a' := ?hA4) (l' := ?hL4) rfl (by kernel_rfl) (by kernel_rfl) (by kernel_rfl) (fun _ _ _ h => h) (by rfl) (by assumption) ?ha4 ?hl4 ?hh4; (case ha4 => (simp only [Act.put, List.setIfInBounds_toArray, List.set_cons_zero, List.set_cons_succ, Option.isNone_none, Option.isNone_some, Bool.not_true, Bool.not_false]; (try with_reducible rfl))); (case hl4 => (simp only [Act.put, List.setIfInBounds_toArray, List.set_cons_zero, List.set_cons_succ, Option.isNone_none, Option.isNone_some, Bool.not_true, Bool.not_false]; (try with_reducible rfl)))) | (refine held_take (i := 3) (v := ?hV4) (a' := ?hA4) (l' := ?hL4) rfl (by kernel_rfl) (by kernel_rfl) (by kernel_rfl) (fun _ _ _ h => h) (by rfl) ?hv4 (by assumption) ?ha4 ?hl4 ?hh4; (case hv4 => (intro w hSw; (try dsimp only at hSw); go_simp; (try simp only [run_eql_slice_nil _ 27 _ _ _ _ Try.underlying27, Result.andThen_ok]); (try with_reducible rfl))); (case ha4 => (simp only [Act.put, List.setIfInBounds_toArray, List.set_cons_zero, List.set_cons_succ, Option.isNone_none, Option.isNone_some, Bool.not_true, Bool.not_false]; (try with_reducible rfl))); (case hl4 => (simp only [Act.put, List.setIfInBounds_toArray, List.set_cons_zero, List.set_cons_succ, Option.isNone_none, Option.isNone_some, Bool.not_true, Bool.not_false]; (try with_reducible rfl))))); (first | (refine held_skip (i := 4) (a' := ?hA5) (l' := ?hL5) rfl (by kernel_rfl) (by kernel_rfl) (by kernel_rfl) (fun _ _ _ h => h) (by rfl) (by assumption) ?ha5 ?hl5 ?hh5; (case ha5 => (simp only [Act.put, List.setIfInBounds_toArray, List.set_cons_zero, List.set_cons_succ, Option.isNone_none, Option.isNone_some, Bool.not_true, Bool.not_false]; (try with_reducible rfl))); (case hl5 => (simp only [Act.put, List.setIfInBounds_toArray, List.set_cons_zero, List.set_cons_succ, Option.isNone_none, Option.isNone_some, Bool.not_true, Bool.not_false]; (try with_reducible rfl)))) | (refine held_take (i := 4) (v := ?hV5) (a' := ?hA5) (l' := ?hL5) rfl (by kernel_rfl) (by kernel_rfl) (by kernel_rfl) (fun _ _ _ h => h) (by rfl) ?hv5 (by assumption) ?ha5 ?hl5 ?hh5; (case hv5 => (intro w hSw; (try dsimp only at hSw); go_simp; (try simp only [run_eql_slice_nil _ 27 _ _ _ _ Try.underlying27, Result.andThen_ok]); (try with_reducible rfl))); (case ha5 => (simp only [Act.put, List.setIfInBounds_toArray, List.set_cons_zero, List.set_cons_succ, Option.isNone_none, Option.isNone_some, Bool.not_true, Bool.not_false]; (try with_reducible rfl))); (case hl5 => (simp only [Act.put, List.setIfInBounds_toArray, List.set_cons_zero, List.set_cons_succ, Option.isNone_none, Option.isNone_some, Bool.not_true, Bool.not_false]; (try with_reducible rfl))))); (first | (refine held_skip (i := 5) (a' := ?hA6) (l' := ?hL6) rfl (by kernel_rfl) (by kernel_rfl) (by kernel_rfl) (fun _ _ _ h => h) (by rfl) (by assumption) ?ha6 ?hl6 ?hh6; (case ha6 => (simp only [Act.put, List.setIfInBounds_toArray, List.set_cons_zero, List.set_cons_succ, Option.isNone_none, Option.isNone_some, Bool.not_true, Bool.not_false]; (try with_reducible rfl))); (case hl6 => (simp only [Act.put, List.setIfInBounds_toArray, List.set_cons_zero, List.set_cons_succ, Option.isNone_none, Option.isNone_some, Bool.not_true, Bool.not_false]; (try with_reducible rfl)))) | (refine held_take (i := 5) (v := ?hV6) (a' := ?hA6) (l' := ?hL6) rfl (by kernel_rfl) (by kernel_rfl) (by kernel_rfl) (fun _ _ _ h => h) (by rfl) ?hv6 (by assumption) ?ha6 ?hl6 ?hh6; (case hv6 => (intro w hSw; (try dsimp only at hSw); go_simp; (try simp only [run_eql_slice_nil _ 27 _ _ _ _ Try.underlying27, Result.andThen_ok]); (try with_reducible rfl))); (case ha6 => (simp only [Act.put, List.setIfInBounds_toArray, List.set_cons_zero, List.set_cons_succ, Option.isNone_none, Option.isNone_some, Bool.not_true, Bool.not_false]; (try with_reducible rfl))); (case hl6 => (simp only [Act.put, List.setIfInBounds_toArray, List.set_cons_zero, List.set_cons_succ, Option.isNone_none, Option.isNone_some, Bool.not_true, Bool.not_false]; (try with_reducible rfl))))); (first | (refine held_skip (i := 6) (a' := ?hA7) (l' := ?hL7) rfl (by kernel_rfl) (by kernel_rfl) (by kernel_rfl) (fun _ _ _ h => h) (by rfl) (by assumption) ?ha7 ?hl7 ?hh7; (case ha7 => (simp only [Act.put, List.setIfInBounds_toArray, List.set_cons_zero, List.set_cons_succ, Option.isNone_none, Option.isNone_some, Bool.not_true, Bool.not_false]; (try with_reducible rfl))); (case hl7 => (simp only [Act.put, List.setIfInBounds_toArray, List.set_cons_zero, List.set_cons_succ, Option.isNone_none, Option.isNone_some, Bool.not_true, Bool.not_false]; (try with_reducible rfl)))) | (refine held_take (i := 6) (v := ?hV7) (a' := ?hA7) (l' := ?hL7) rfl (by kernel_rfl) (by kernel_rfl) (by kernel_rfl) (fun _ _ _ h => h) (by rfl) ?hv7 (by assumption) ?ha7 ?hl7 ?hh7; (case hv7 => (intro w hSw; (try dsimp only at hSw); go_simp; (try simp only [run_eql_slice_nil _ 27 _ _ _ _ Try.underlying27, Result.andThen_ok]); (try with_reducible rfl))); (case ha7 => (simp only [Act.put, List.setIfInBounds_toArray, List.set_cons_zero, List.set_cons_succ, Option.isNone_none, Option.isNone_some, Bool.not_true, Bool.not_false]; (try with_reducible rfl))); (case hl7 => (simp only [Act.put, List.setIfInBounds_toArray, List.set_cons_zero, List.set_cons_succ, Option.isNone_none, Option.isNone_some, Bool.not_true, Bool.not_false]; (try with_reducible rfl))))); (first | (refine held_skip (i := 7) (a' := ?hA8) (l' := ?hL8) rfl (by kernel_rfl) (by kernel_rfl) (by kernel_rfl) (fun _ _ _ h => h) (by rfl) (by assumption) ?ha8 ?hl8 ?hh8; (case ha8 => (simp only [Act.put, List.setIfInBounds_toArray, List.set_cons_zero, List.set_cons_succ, Option.isNone_none, Option.isNone_some, Bool.not_true, Bool.not_false]; (try with_reducible rfl))); (case hl8 => (simp only [Act.put, List.setIfInBounds_toArray, List.set_cons_zero, List.set_cons_succ, Option.isNone_none, Option.isNone_some, Bool.not_true, Bool.not_false]; (try with_reducible rfl)))) | (refine held_take (i := 7) (v := ?hV8) (a' := ?hA8) (l' := ?hL8) rfl (by kernel_rfl) (by kernel_rfl) (by kernel_rfl) (fun _ _ _ h => h) (by rfl) ?hv8 (by assumption) ?ha8 ?hl8 ?hh8; (case hv8 => (intro w hSw; (try dsimp only at hSw); go_simp; (try simp only [run_eql_slice_nil _ 27 _ _ _ _ Try.underlying27, Result.andThen_ok]); (try with_reducible rfl))); (case ha8 => (simp only [Act.put, List.setIfInBounds_toArray, List.set_cons_zero, List.set_cons_succ, Option.isNone_none, Option.isNone_some, Bool.not_true, Bool.not_false]; (try with_reducible rfl))); (case hl8 => (simp only [Act.put, List.setIfInBounds_toArray, List.set_cons_zero, List.set_cons_succ, Option.isNone_none, Option.isNone_some, Bool.not_true, Bool.not_false]; (try with_reducible rfl))))); (first | (refine held_skip (i := 8) (a' := ?hA9) (l' := ?hL9) rfl (by kernel_rfl) (by kernel_rfl) (by kernel_rfl) (fun _ _ _ h => h) (by rfl) (by assumption) ?ha9 ?hl9 ?hh9; (case ha9 => (simp only [Act.put, List.setIfInBounds_toArray, List.set_cons_zero, List.set_cons_succ, Option.isNone_none, Option.isNone_some, Bool.not_true, Bool.not_false]; (try with_reducible rfl))); (case hl9 => (simp only [Act.put, List.setIfInBounds_toArray, List.set_cons_zero, List.set_cons_succ, Option.isNone_none, Option.isNone_some, Bool.not_true, Bool.not_false]; (try with_reducible rfl)))) | (refine held_take (i := 8) (v := ?hV9) (a' := ?hA9) (l' := ?hL9) rfl (by kernel_rfl) (by kernel_rfl) (by kernel_rfl) (fun _ _ _ h => h) (by rfl) ?hv9 (by assumption) ?ha9 ?hl9 ?hh9; (case hv9 => (intro w hSw; (try dsimp only at hSw); go_simp; (try simp only [run_eql_slice_nil _ 27 _ _ _ _ Try.underlying27, Result.andThen_ok]); (try with_reducible rfl))); (case ha9 => (simp only [Act.put, List.setIfInBounds_toArray, List.set_cons_zero, List.set_cons_succ, Option.isNone_none, Option.isNone_some, Bool.not_true, Bool.not_false]; (try with_reducible rfl))); (case hl9 => (simp only [Act.put, List.setIfInBounds_toArray, List.set_cons_zero, List.set_cons_succ, Option.isNone_none, Option.isNone_some, Bool.not_true, Bool.not_false]; (try with_reducible rfl))))); (first | (refine held_skip (i := 9) (a' := ?hA10) (l' := ?hL10) rfl (by kernel_rfl) (by kernel_rfl) (by kernel_rfl) (fun _ _ _ h => h) (by rfl) (by assumption) ?ha10 ?hl10 ?hh10; (case ha10 => (simp only [Act.put, List.setIfInBounds_toArray, List.set_cons_zero, List.set_cons_succ, Option.isNone_none, Option.isNone_some, Bool.not_true, Bool.not_false]; (try with_reducible rfl))); (case hl10 => (simp only [Act.put, List.setIfInBounds_toArray, List.set_cons_zero, List.set_cons_succ, Option.isNone_none, Option.isNone_some, Bool.not_true, Bool.not_false]; (try with_reducible rfl)))) | (refine held_take (i := 9) (v := ?hV10) (a' := ?hA10) (l' := ?hL10) rfl (by kernel_rfl) (by kernel_rfl) (by kernel_rfl) (fun _ _ _ h => h) (by rfl) ?hv10 (by assumption) ?ha10 ?hl10 ?hh10; (case hv10 => (intro w hSw; (try dsimp only at hSw); go_simp; (try simp only [run_eql_slice_nil _ 27 _ _ _ _ Try.underlying27, Result.andThen_ok]); (try with_reducible rfl))); (case ha10 => (simp only [Act.put, List.setIfInBounds_toArray, List.set_cons_zero, List.set_cons_succ, Option.isNone_none, Option.isNone_some, Bool.not_true, Bool.not_false]; (try with_reducible rfl))); (case hl10 => (simp only [Act.put, List.setIfInBounds_toArray, List.set_cons_zero, List.set_cons_succ, Option.isNone_none, Option.isNone_some, Bool.not_true, Bool.not_false]; (try with_reducible rfl))))); (first | (refine held_skip (i := 10) (a' := ?hA11) (l' := ?hL11) rfl (by kernel_rfl) (by kernel_rfl) (by kernel_rfl) (fun _ _ _ h => h) (by rfl) (by assumption) ?ha11 ?hl11 ?hh11; (case ha11 => (simp only [Act.put, List.setIfInBounds_toArray, List.set_cons_zero, List.set_cons_succ, Option.isNone_none, Option.isNone_some, Bool.not_true, Bool.not_false]; (try with_reducible rfl))); (case hl11 => (simp only [Act.put, List.setIfInBounds_toArray, List.set_cons_zero, List.set_cons_succ, Option.isNone_none, Option.isNone_some, Bool.not_true, Bool.not_false]; (try with_reducible rfl)))) | (refine held_take (i := 10) (v := ?hV11) (a' := ?hA11) (l' := ?hL11) rfl (by kernel_rfl) (by kernel_rfl) (by kernel_rfl) (fun _ _ _ h => h) (by rfl) ?hv11 (by assumption) ?ha11 ?hl11 ?hh11; (case hv11 => (intro w hSw; (try dsimp only at hSw); go_simp; (try simp only [run_eql_slice_nil _ 27 _ _ _ _ Try.underlying27, Result.andThen_ok]); (try with_reducible rfl))); (case ha11 => (simp only [Act.put, List.setIfInBounds_toArray, List.set_cons_zero, List.set_cons_succ, Option.isNone_none, Option.isNone_some, Bool.not_true, Bool.not_false]; (try with_reducible rfl))); (case hl11 => (simp only [Act.put, List.setIfInBounds_toArray, List.set_cons_zero, List.set_cons_succ, Option.isNone_none, Option.isNone_some, Bool.not_true, Bool.not_false]; (try with_reducible rfl))))); (first | (refine held_skip (i := 11) (a' := ?hA12) (l' := ?hL12) rfl (by kernel_rfl) (by kernel_rfl) (by kernel_rfl) (fun _ _ _ h => h) (by rfl) (by assumption) ?ha12 ?hl12 ?hh12; (case ha12 => (simp only [Act.put, List.setIfInBounds_toArray, List.set_cons_zero, List.set_cons_succ, Option.isNone_none, Option.isNone_some, Bool.not_true, Bool.not_false]; (try with_reducible rfl))); (case hl12 => (simp only [Act.put, List.setIfInBounds_toArray, List.set_cons_zero, List.set_cons_succ, Option.isNone_none, Option.isNone_some, Bool.not_true, Bool.not_false]; (try with_reducible rfl)))) | (refine held_take (i := 11) (v := ?hV12) (a' := ?hA12) (l' := ?hL12) rfl (by kernel_rfl) (by kernel_rfl) (by kernel_rfl) (fun _ _ _ h => h) (by rfl) ?hv12 (by assumption) ?ha12 ?hl12 ?hh12; (case hv12 => (intro w hSw; (try dsimp only at hSw); go_simp; (try simp only [run_eql_slice_nil _ 27 _ _ _ _ Try.underlying27, Result.andThen_ok]); (try with_reducible rfl))); (case ha12 => (simp only [Act.put, List.setIfInBounds_toArray, List.set_cons_zero, List.set_cons_succ, Option.isNone_none, Option.isNone_some, Bool.not_true, Bool.not_false]; (try with_reducible rfl))); (case hl12 => (simp only [Act.put, List.setIfInBounds_toArray, List.set_cons_zero, List.set_cons_succ, Option.isNone_none, Option.isNone_some, Bool.not_true, Bool.not_false]; (try with_reducible rfl))))); (first | (refine held_skip (i := 12) (a' := ?hA13) (l' := ?hL13) rfl (by kernel_rfl) (by kernel_rfl) (by kernel_rfl) (fun _ _ _ h => h) (by rfl) (by assumption) ?ha13 ?hl13 ?hh13; (case ha13 => (simp only [Act.put, List.setIfInBounds_toArray, List.set_cons_zero, List.set_cons_succ, Option.isNone_none, Option.isNone_some, Bool.not_true, Bool.not_false]; (try with_reducible rfl))); (case hl13 => (simp only [Act.put, List.setIfInBounds_toArray, List.set_cons_zero, List.set_cons_succ, Option.isNone_none, Option.isNone_some, Bool.not_true, Bool.not_false]; (try with_reducible rfl)))) | (refine held_take (i := 12) (v := ?hV13) (a' := ?hA13) (l' := ?hL13) rfl (by kernel_rfl) (by kernel_rfl) (by kernel_rfl) (fun _ _ _ h => h) (by rfl) ?hv13 (by assumption) ?ha13 ?hl13 ?hh13; (case hv13 => (intro w hSw; (try dsimp only at hSw); go_simp; (try simp only [run_eql_slice_nil _ 27 _ _ _ _ Try.underlying27, Result.andThen_ok]); (try with_reducible rfl))); (case ha13 => (simp only [Act.put, List.setIfInBounds_toArray, List.set_cons_zero, List.set_cons_succ, Option.isNone_none, Option.isNone_some, Bool.not_true, Bool.not_false]; (try with_reducible rfl))); (case hl13 => (simp only [Act.put, List.setIfInBounds_toArray, List.set_cons_zero, List.set_cons_succ, Option.isNone_none, Option.isNone_some, Bool.not_true, Bool.not_false]; (try with_reducible rfl))))); (first | (refine held_skip (i := 13) (a' := ?hA14) (l' := ?hL14) rfl (by kernel_rfl) (by kernel_rfl) (by kernel_rfl) (fun _ _ _ h => h) (by rfl) (by assumption) ?ha14 ?hl14 ?hh14; (case ha14 => (simp only [Act.put, List.setIfInBounds_toArray, List.set_cons_zero, List.set_cons_succ, Option.isNone_none, Option.isNone_some, Bool.not_true, Bool.not_false]; (try with_reducible rfl))); (case hl14 => (simp only [Act.put, List.setIfInBounds_toArray, List.set_cons_zero, List.set_cons_succ, Option.isNone_none, Option.isNone_some, Bool.not_true, Bool.not_false]; (try with_reducible rfl)))) | (refine held_take (i := 13) (v := ?hV14) (a' := ?hA14) (l' := ?hL14) rfl (by kernel_rfl) (by kernel_rfl) (by kernel_rfl) (fun _ _ _ h => h) (by rfl) ?hv14 (by assumption) ?ha14 ?hl14 ?hh14; (case hv14 => (intro w hSw; (try dsimp only at hSw); go_simp; (try simp only [run_eql_slice_nil _ 27 _ _ _ _ Try.underlying27, Result.andThen_ok]); (try with_reducible rfl))); (case ha14 => (simp only [Act.put, List.setIfInBounds_toArray, List.set_cons_zero, List.set_cons_succ, Option.isNone_none, Option.isNone_some, Bool.not_true, Bool.not_false]; (try with_reducible rfl))); (case hl14 => (simp only [Act.put, List.setIfInBounds_toArray, List.set_cons_zero, List.set_cons_succ, Option.isNone_none, Option.isNone_some, Bool.not_true, Bool.not_false]; (try with_reducible rfl))))); (first | (refine held_skip (i := 14) (a' := ?hA15) (l' := ?hL15) rfl (by kernel_rfl) (by kernel_rfl) (by kernel_rfl) (fun _ _ _ h => h) (by rfl) (by assumption) ?ha15 ?hl15 ?hh15; (case ha15 => (simp only [Act.put, List.setIfInBounds_toArray, List.set_cons_zero, List.set_cons_succ, Option.isNone_none, Option.isNone_some, Bool.not_true, Bool.not_false]; (try with_reducible rfl))); (case hl15 => (simp only [Act.put, List.setIfInBounds_toArray, List.set_cons_zero, List.set_cons_succ, Option.isNone_none, Option.isNone_some, Bool.not_true, Bool.not_false]; (try with_reducible rfl)))) | (refine held_take (i := 14) (v := ?hV15) (a' := ?hA15) (l' := ?hL15) rfl (by kernel_rfl) (by kernel_rfl) (by kernel_rfl) (fun _ _ _ h => h) (by rfl) ?hv15 (by assumption) ?ha15 ?hl15 ?hh15; (case hv15 => (intro w hSw; (try dsimp only at hSw); go_simp; (try simp only [run_eql_slice_nil _ 27 _ _ _ _ Try.underlying27, Result.andThen_ok]); (try with_reducible rfl))); (case ha15 => (simp only [Act.put, List.setIfInBounds_toArray, List.set_cons_zero, List.set_cons_succ, Option.isNone_none, Option.isNone_some, Bool.not_true, Bool.not_false]; (try with_reducible rfl))); (case hl15 => (simp only [Act.put, List.setIfInBounds_toArray, List.set_cons_zero, List.set_cons_succ, Option.isNone_none, Option.isNone_some, Bool.not_true, Bool.not_false]; (try with_reducible rfl))))); (first | (refine held_skip (i := 15) (a' := ?hA16) (l' := ?hL16) rfl (by kernel_rfl) (by kernel_rfl) (by kernel_rfl) (fun _ _ _ h => h) (by rfl) (by assumption) ?ha16 ?hl16 ?hh16; (case ha16 => (simp only [Act.put, List.setIfInBounds_toArray, List.set_cons_zero, List.set_cons_succ, Option.isNone_none, Option.isNone_some, Bool.not_true, Bool.not_false]; (try with_reducible rfl))); (case hl16 => (simp only [Act.put, List.setIfInBounds_toArray, List.set_cons_zero, List.set_cons_succ, Option.isNone_none, Option.isNone_some, Bool.not_true, Bool.not_false]; (try with_reducible rfl)))) | (refine held_take (i := 15) (v := ?hV16) (a' := ?hA16) (l' := ?hL16) rfl (by kernel_rfl) (by kernel_rfl) (by kernel_rfl) (fun _ _ _ h => h) (by rfl) ?hv16 (by assumption) ?ha16 ?hl16 ?hh16; (case hv16 => (intro w hSw; (try dsimp only at hSw); go_simp; (try simp only [run_eql_slice_nil _ 27 _ _ _ _ Try.underlying27, Result.andThen_ok]); (try with_reducible rfl))); (case ha16 => (simp only [Act.put, List.setIfInBounds_toArray, List.set_cons_zero, List.set_cons_succ, Option.isNone_none, Option.isNone_some, Bool.not_true, Bool.not_false]; (try with_reducible rfl))); (case hl16 => (simp only [Act.put, List.setIfInBounds_toArray, List.set_cons_zero, List.set_cons_succ, Option.isNone_none, Option.isNone_some, Bool.not_true, Bool.not_false]; (try with_reducible rfl))))); (first | (refine held_skip (i := 16) (a' := ?hA17) (l' := ?hL17) rfl (by kernel_rfl) (by kernel_rfl) (by kernel_rfl) (fun _ _ _ h => h) (by rfl) (by assumption) ?ha17 ?hl17 ?hh17; (case ha17 => (simp only [Act.put, List.setIfInBounds_toArray, List.set_cons_zero, List.set_cons_succ, Option.isNone_none, Option.isNone_some, Bool.not_true, Bool.not_false]; (try with_reducible rfl))); (case hl17 => (simp only [Act.put, List.setIfInBounds_toArray, List.set_cons_zero, List.set_cons_succ, Option.isNone_none, Option.isNone_some, Bool.not_true, Bool.not_false]; (try with_reducible rfl)))) | (refine held_take (i := 16) (v := ?hV17) (a' := ?hA17) (l' := ?hL17) rfl (by kernel_rfl) (by kernel_rfl) (by kernel_rfl) (fun _ _ _ h => h) (by rfl) ?hv17 (by assumption) ?ha17 ?hl17 ?hh17; (case hv17 => (intro w hSw; (try dsimp only at hSw); go_simp; (try simp only [run_eql_slice_nil _ 27 _ _ _ _ Try.underlying27, Result.andThen_ok]); (try with_reducible rfl))); (case ha17 => (simp only [Act.put, List.setIfInBounds_toArray, List.set_cons_zero, List.set_cons_succ, Option.isNone_none, Option.isNone_some, Bool.not_true, Bool.not_false]; (try with_reducible rfl))); (case hl17 => (simp only [Act.put, List.setIfInBounds_toArray, List.set_cons_zero, List.set_cons_succ, Option.isNone_none, Option.isNone_some, Bool.not_true, Bool.not_false]; (try with_reducible rfl))))); (first | (refine held_skip (i := 17) (a' := ?hA18) (l' := ?hL18) rfl (by kernel_rfl) (by kernel_rfl) (by kernel_rfl) (fun _ _ _ h => h) (by rfl) (by assumption) ?ha18 ?hl18 ?hh18; (case ha18 => (simp only [Act.put, List.setIfInBounds_toArray, List.set_cons_zero, List.set_cons_succ, Option.isNone_none, Option.isNone_some, Bool.not_true, Bool.not_false]; (try with_reducible rfl))); (case hl18 => (simp only [Act.put, List.setIfInBounds_toArray, List.set_cons_zero, List.set_cons_succ, Option.isNone_none, Option.isNone_some, Bool.not_true, Bool.not_false]; (try with_reducible rfl)))) | (refine held_take (i := 17) (v := ?hV18) (a' := ?hA18) (l' := ?hL18) rfl (by kernel_rfl) (by kernel_rfl) (by kernel_rfl) (fun _ _ _ h => h) (by rfl) ?hv18 (by assumption) ?ha18 ?hl18 ?hh18; (case hv18 => (intro w hSw; (try dsimp only at hSw); go_simp; (try simp only [run_eql_slice_nil _ 27 _ _ _ _ Try.underlying27, Result.andThen_ok]); (try with_reducible rfl))); (case ha18 => (simp only [Act.put, List.setIfInBounds_toArray, List.set_cons_zero, List.set_cons_succ, Option.isNone_none, Option.isNone_some, Bool.not_true, Bool.not_false]; (try with_reducible rfl))); (case hl18 => (simp only [Act.put, List.setIfInBounds_toArray, List.set_cons_zero, List.set_cons_succ, Option.isNone_none, Option.isNone_some, Bool.not_true, Bool.not_false]; (try with_reducible rfl))))); (first | (refine held_skip (i := 18) (a' := ?hA19) (l' := ?hL19) rfl (by kernel_rfl) (by kernel_rfl) (by kernel_rfl) (fun _ _ _ h => h) (by rfl) (by assumption) ?ha19 ?hl19 ?hh19; (case ha19 => (simp only [Act.put, List.setIfInBounds_toArray, List.set_cons_zero, List.set_cons_succ, Option.isNone_none, Option.isNone_some, Bool.not_true, Bool.not_false]; (try with_reducible rfl))); (case hl19 => (simp only [Act.put, List.setIfInBounds_toArray, List.set_cons_zero, List.set_cons_succ, Option.isNone_none, Option.isNone_some, Bool.not_true, Bool.not_false]; (try with_reducible rfl)))) | (refine held_take (i := 18) (v := ?hV19) (a' := ?hA19) (l' := ?hL19) rfl (by kernel_rfl) (by kernel_rfl) (by kernel_rfl) (fun _ _ _ h => h) (by rfl) ?hv19 (by assumption) ?ha19 ?hl19 ?hh19; (case hv19 => (intro w hSw; (try dsimp only at hSw); go_simp; (try simp only [run_eql_slice_nil _ 27 _ _ _ _ Try.underlying27, Result.andThen_ok]); (try with_reducible rfl))); (case ha19 => (simp only [Act.put, List.setIfInBounds_toArray, List.set_cons_zero, List.set_cons_succ, Option.isNone_none, Option.isNone_some, Bool.not_true, Bool.not_false]; (try with_reducible rfl))); (case hl19 => (simp only [Act.put, List.setIfInBounds_toArray, List.set_cons_zero, List.set_cons_succ, Option.isNone_none, Option.isNone_some, Bool.not_true, Bool.not_false]; (try with_reducible rfl))))); (first | (refine held_skip (i := 19) (a' := ?hA20) (l' := ?hL20) rfl (by kernel_rfl) (by kernel_rfl) (by kernel_rfl) (fun _ _ _ h => h) (by rfl) (by assumption) ?ha20 ?hl20 ?hh20; (case ha20 => (simp only [Act.put, List.setIfInBounds_toArray, List.set_cons_zero, List.set_cons_succ, Option.isNone_none, Option.isNone_some, Bool.not_true, Bool.not_false]; (try with_reducible rfl))); (case hl20 => (simp only [Act.put, List.setIfInBounds_toArray, List.set_cons_zero, List.set_cons_succ, Option.isNone_none, Option.isNone_some, Bool.not_true, Bool.not_false]; (try with_reducible rfl)))) | (refine held_take (i := 19) (v := ?hV20) (a' := ?hA20) (l' := ?hL20) rfl (by kernel_rfl) (by kernel_rfl) (by kernel_rfl) (fun _ _ _ h => h) (by rfl) ?hv20 (by assumption) ?ha20 ?hl20 ?hh20; (case hv20 => (intro w hSw; (try dsimp only at hSw); go_simp; (try simp only [run_eql_slice_nil _ 27 _ _ _ _ Try.underlying27, Result.andThen_ok]); (try with_reducible rfl))); (case ha20 => (simp only [Act.put, List.setIfInBounds_toArray, List.set_cons_zero, List.set_cons_succ, Option.isNone_none, Option.isNone_some, Bool.not_true, Bool.not_false]; (try with_reducible rfl))); (case hl20 => (simp only [Act.put, List.setIfInBounds_toArray, List.set_cons_zero, List.set_cons_succ, Option.isNone_none, Option.isNone_some, Bool.not_true, Bool.not_false]; (try with_reducible rfl))))); (first | (refine held_skip (i := 20) (a' := ?hA21) (l' := ?hL21) rfl (by kernel_rfl) (by kernel_rfl) (by kernel_rfl) (fun _ _ _ h => h) (by rfl) (by assumption) ?ha21 ?hl21 ?hh21; (case ha21 => (simp only [Act.put, List.setIfInBounds_toArray, List.set_cons_zero, List.set_cons_succ, Option.isNone_none, Option.isNone_some, Bool.not_true, Bool.not_false]; (try with_reducible rfl))); (case hl21 => (simp only [Act.put, List.setIfInBounds_toArray, List.set_cons_zero, List.set_cons_succ, Option.isNone_none, Option.isNone_some, Bool.not_true, Bool.not_false]; (try with_reducible rfl)))) | (refine held_take (i := 20) (v := ?hV21) (a' := ?hA21) (l' := ?hL21) rfl (by kernel_rfl) (by kernel_rfl) (by kernel_rfl) (fun _ _ _ h => h) (by rfl) ?hv21 (by assumption) ?ha21 ?hl21 ?hh21; (case hv21 => (intro w hSw; (try dsimp only at hSw); go_simp; (try simp only [run_eql_slice_nil _ 27 _ _ _ _ Try.underlying27, Result.andThen_ok]); (try with_reducible rfl))); (case ha21 => (simp only [Act.put, List.setIfInBounds_toArray, List.set_cons_zero, List.set_cons_succ, Option.isNone_none, Option.isNone_some, Bool.not_true, Bool.not_false]; (try with_reducible rfl))); (case hl21 => (simp only [Act.put, List.setIfInBounds_toArray, List.set_cons_zero, List.set_cons_succ, Option.isNone_none, Option.isNone_some, Bool.not_true, Bool.not_false]; (try with_reducible rfl))))); (first | (refine held_skip (i := 21) (a' := ?hA22) (l' := ?hL22) rfl (by kernel_rfl) (by kernel_rfl) (by kernel_rfl) (fun _ _ _ h => h) (by rfl) (by assumption) ?ha22 ?hl22 ?hh22; (case ha22 => (simp only [Act.put, List.setIfInBounds_toArray, List.set_cons_zero, List.set_cons_succ, Option.isNone_none, Option.isNone_some, Bool.not_true, Bool.not_false]; (try with_reducible rfl))); (case hl22 => (simp only [Act.put, List.setIfInBounds_toArray, List.set_cons_zero, List.set_cons_succ, Option.isNone_none, Option.isNone_some, Bool.not_true, Bool.not_false]; (try with_reducible rfl)))) | (refine held_take (i := 21) (v := ?hV22) (a' := ?hA22) (l' := ?hL22) rfl (by kernel_rfl) (by kernel_rfl) (by kernel_rfl) (fun _ _ _ h => h) (by rfl) ?hv22 (by assumption) ?ha22 ?hl22 ?hh22; (case hv22 => (intro w hSw; (try dsimp only at hSw); go_simp; (try simp only [run_eql_slice_nil _ 27 _ _ _ _ Try.underlying27, Result.andThen_ok]); (try with_reducible rfl))); (case ha22 => (simp only [Act.put, List.setIfInBounds_toArray, List.set_cons_zero, List.set_cons_succ, Option.isNone_none, Option.isNone_some, Bool.not_true, Bool.not_false]; (try with_reducible rfl))); (case hl22 => (simp only [Act.put, List.setIfInBounds_toArray, List.set_cons_zero, List.set_cons_succ, Option.isNone_none, Option.isNone_some, Bool.not_true, Bool.not_false]; (try with_reducible rfl))))); (first | (refine held_skip (i := 22) (a' := ?hA23) (l' := ?hL23) rfl (by kernel_rfl) (by kernel_rfl) (by kernel_rfl) (fun _ _ _ h => h) (by rfl) (by assumption) ?ha23 ?hl23 ?hh23; (case ha23 => (simp only [Act.put, List.setIfInBounds_toArray, List.set_cons_zero, List.set_cons_succ, Option.isNone_none, Option.isNone_some, Bool.not_true, Bool.not_false]; (try with_reducible rfl))); (case hl23 => (simp only [Act.put, List.setIfInBounds_toArray, List.set_cons_zero, List.set_cons_succ, Option.isNone_none, Option.isNone_some, Bool.not_true, Bool.not_false]; (try with_reducible rfl)))) | (refine held_take (i := 22) (v := ?hV23) (a' := ?hA23) (l' := ?hL23) rfl (by kernel_rfl) (by kernel_rfl) (by kernel_rfl) (fun _ _ _ h => h) (by rfl) ?hv23 (by assumption) ?ha23 ?hl23 ?hh23; (case hv23 => (intro w hSw; (try dsimp only at hSw); go_simp; (try simp only [run_eql_slice_nil _ 27 _ _ _ _ Try.underlying27, Result.andThen_ok]); (try with_reducible rfl))); (case ha23 => (simp only [Act.put, List.setIfInBounds_toArray, List.set_cons_zero, List.set_cons_succ, Option.isNone_none, Option.isNone_some, Bool.not_true, Bool.not_false]; (try with_reducible rfl))); (case hl23 => (simp only [Act.put, List.setIfInBounds_toArray, List.set_cons_zero, List.set_cons_succ, Option.isNone_none, Option.isNone_some, Bool.not_true, Bool.not_false]; (try with_reducible rfl))))); (first | (refine held_skip (i := 23) (a' := ?hA24) (l' := ?hL24) rfl (by kernel_rfl) (by kernel_rfl) (by kernel_rfl) (fun _ _ _ h => h) (by rfl) (by assumption) ?ha24 ?hl24 ?hh24; (case ha24 => (simp only [Act.put, List.setIfInBounds_toArray, List.set_cons_zero, List.set_cons_succ, Option.isNone_none, Option.isNone_some, Bool.not_true, Bool.not_false]; (try with_reducible rfl))); (case hl24 => (simp only [Act.put, List.setIfInBounds_toArray, List.set_cons_zero, List.set_cons_succ, Option.isNone_none, Option.isNone_some, Bool.not_true, Bool.not_false]; (try with_reducible rfl)))) | (refine held_take (i := 23) (v := ?hV24) (a' := ?hA24) (l' := ?hL24) rfl (by kernel_rfl) (by kernel_rfl) (by kernel_rfl) (fun _ _ _ h => h) (by rfl) ?hv24 (by assumption) ?ha24 ?hl24 ?hh24; (case hv24 => (intro w hSw; (try dsimp only at hSw); go_simp; (try simp only [run_eql_slice_nil _ 27 _ _ _ _ Try.underlying27, Result.andThen_ok]); (try with_reducible rfl))); (case ha24 => (simp only [Act.put, List.setIfInBounds_toArray, List.set_cons_zero, List.set_cons_succ, Option.isNone_none, Option.isNone_some, Bool.not_true, Bool.not_false]; (try with_reducible rfl))); (case hl24 => (simp only [Act.put, List.setIfInBounds_toArray, List.set_cons_zero, List.set_cons_succ, Option.isNone_none, Option.isNone_some, Bool.not_true, Bool.not_false]; (try with_reducible rfl))))); (first | (refine held_skip (i := 24) (a' := ?hA25) (l' := ?hL25) rfl (by kernel_rfl) (by kernel_rfl) (by kernel_rfl) (fun _ _ _ h => h) (by rfl) (by assumption) ?ha25 ?hl25 ?hh25; (case ha25 => (simp only [Act.put, List.setIfInBounds_toArray, List.set_cons_zero, List.set_cons_succ, Option.isNone_none, Option.isNone_some, Bool.not_true, Bool.not_false]; (try with_reducible rfl))); (case hl25 => (simp only [Act.put, List.setIfInBounds_toArray, List.set_cons_zero, List.set_cons_succ, Option.isNone_none, Option.isNone_some, Bool.not_true, Bool.not_false]; (try with_reducible rfl)))) | (refine held_take (i := 24) (v := ?hV25) (a' := ?hA25) (l' := ?hL25) rfl (by kernel_rfl) (by kernel_rfl) (by kernel_rfl) (fun _ _ _ h => h) (by rfl) ?hv25 (by assumption) ?ha25 ?hl25 ?hh25; (case hv25 => (intro w hSw; (try dsimp only at hSw); go_simp; (try simp only [run_eql_slice_nil _ 27 _ _ _ _ Try.underlying27, Result.andThen_ok]); (try with_reducible rfl))); (case ha25 => (simp only [Act.put, List.setIfInBounds_toArray, List.set_cons_zero, List.set_cons_succ, Option.isNone_none, Option.isNone_some, Bool.not_true, Bool.not_false]; (try with_reducible rfl))); (case hl25 => (simp only [Act.put, List.setIfInBounds_toArray, List.set_cons_zero, List.set_cons_succ, Option.isNone_none, Option.isNone_some, Bool.not_true, Bool.not_false]; (try with_reducible rfl))))); (first | (refine held_skip (i := 25) (a' := ?hA26) (l' := ?hL26) rfl (by kernel_rfl) (by kernel_rfl) (by kernel_rfl) (fun _ _ _ h => h) (by rfl) (by assumption) ?ha26 ?hl26 ?hh26; (case ha26 => (simp only [Act.put, List.setIfInBounds_toArray, List.set_cons_zero, List.set_cons_succ, Option.isNone_none, Option.isNone_some, Bool.not_true, Bool.not_false]; (try with_reducible rfl))); (case hl26 => (simp only [Act.put, List.setIfInBounds_toArray, List.set_cons_zero, List.set_cons_succ, Option.isNone_none, Option.isNone_some, Bool.not_true, Bool.not_false]; (try with_reducible rfl)))) | (refine held_take (i := 25) (v := ?hV26) (a' := ?hA26) (l' := ?hL26) rfl (by kernel_rfl) (by kernel_rfl) (by kernel_rfl) (fun _ _ _ h => h) (by rfl) ?hv26 (by assumption) ?ha26 ?hl26 ?hh26; (case hv26 => (intro w hSw; (try dsimp only at hSw); go_simp; (try simp only [run_eql_slice_nil _ 27 _ _ _ _ Try.underlying27, Result.andThen_ok]); (try with_reducible rfl))); (case ha26 => (simp only [Act.put, List.setIfInBounds_toArray, List.set_cons_zero, List.set_cons_succ, Option.isNone_none, Option.isNone_some, Bool.not_true, Bool.not_false]; (try with_reducible rfl))); (case hl26 => (simp only [Act.put, List.setIfInBounds_toArray, List.set_cons_zero, List.set_cons_succ, Option.isNone_none, Option.isNone_some, Bool.not_true, Bool.not_false]; (try with_reducible rfl))))); (first | (refine held_skip (i := 26) (a' := ?hA27) (l' := ?hL27) rfl (by kernel_rfl) (by kernel_rfl) (by kernel_rfl) (fun _ _ _ h => h) (by rfl) (by assumption) ?ha27 ?hl27 ?hh27; (case ha27 => (simp only [Act.put, List.setIfInBounds_toArray, List.set_cons_zero, List.set_cons_succ, Option.isNone_none, Option.isNone_some, Bool.not_true, Bool.not_false]; (try with_reducible rfl))); (case hl27 => (simp only [Act.put, List.setIfInBounds_toArray, List.set_cons_zero, List.set_cons_succ, Option.isNone_none, Option.isNone_some, Bool.not_true, Bool.not_false]; (try with_reducible rfl)))) | (refine held_take (i := 26) (v := ?hV27) (a' := ?hA27) (l' := ?hL27) rfl (by kernel_rfl) (by kernel_rfl) (by kernel_rfl) (fun _ _ _ h => h) (by rfl) ?hv27 (by assumption) ?ha27 ?hl27 ?hh27; (case hv27 => (intro w hSw; (try dsimp only at hSw); go_simp; (try simp only [run_eql_slice_nil _ 27 _ _ _ _ Try.underlying27, Result.andThen_ok]); (try with_reducible rfl))); (case ha27 => (simp only [Act.put, List.setIfInBounds_toArray, List.set_cons_zero, List.set_cons_succ, Option.isNone_none, Option.isNone_some, Bool.not_true, Bool.not_false]; (try with_reducible rfl))); (case hl27 => (simp only [Act.put, List.setIfInBounds_toArray, List.set_cons_zero, List.set_cons_succ, Option.isNone_none, Option.isNone_some, Bool.not_true, Bool.not_false]; (try with_reducible rfl))))); (first | (refine held_skip (i := 27) (a' := ?hA28) (l' := ?hL28) rfl (by kernel_rfl) (by kernel_rfl) (by kernel_rfl) (fun _ _ _ h => h) (by rfl) (by assumption) ?ha28 ?hl28 ?hh28; (case ha28 => (simp only [Act.put, List.setIfInBounds_toArray, List.set_cons_zero, List.set_cons_succ, Option.isNone_none, Option.isNone_some, Bool.not_true, Bool.not_false]; (try with_reducible rfl))); (case hl28 => (simp only [Act.put, List.setIfInBounds_toArray, List.set_cons_zero, List.set_cons_succ, Option.isNone_none, Option.isNone_some, Bool.not_true, Bool.not_false]; (try with_reducible rfl)))) | (refine held_take (i := 27) (v := ?hV28) (a' := ?hA28) (l' := ?hL28) rfl (by kernel_rfl) (by kernel_rfl) (by kernel_rfl) (fun _ _ _ h => h) (by rfl) ?hv28 (by assumption) ?ha28 ?hl28 ?hh28; (case hv28 => (intro w hSw; (try dsimp only at hSw); go_simp; (try simp only [run_eql_slice_nil _ 27 _ _ _ _ Try.underlying27, Result.andThen_ok]); (try with_reducible rfl))); (case ha28 => (simp only [Act.put, List.setIfInBounds_toArray, List.set_cons_zero, List.set_cons_succ, Option.isNone_none, Option.isNone_some, Bool.not_true, Bool.not_false]; (try with_reducible rfl))); (case hl28 => (simp only [Act.put, List.setIfInBounds_toArray, List.set_cons_zero, List.set_cons_succ, Option.isNone_none, Option.isNone_some, Bool.not_true, Bool.not_false]; (try with_reducible rfl))))); (first | (refine held_skip (i := 28) (a' := ?hA29) (l' := ?hL29) rfl (by kernel_rfl) (by kernel_rfl) (by kernel_rfl) (fun _ _ _ h => h) (by rfl) (by assumption) ?ha29 ?hl29 ?hh29; (case ha29 => (simp only [Act.put, List.setIfInBounds_toArray, List.set_cons_zero, List.set_cons_succ, Option.isNone_none, Option.isNone_some, Bool.not_true, Bool.not_false]; (try with_reducible rfl))); (case hl29 => (simp only [Act.put, List.setIfInBounds_toArray, List.set_cons_zero, List.set_cons_succ, Option.isNone_none, Option.isNone_some, Bool.not_true, Bool.not_false]; (try with_reducible rfl)))) | (refine held_take (i := 28) (v := ?hV29) (a' := ?hA29) (l' := ?hL29) rfl (by kernel_rfl) (by kernel_rfl) (by kernel_rfl) (fun _ _ _ h => h) (by rfl) ?hv29 (by assumption) ?ha29 ?hl29 ?hh29; (case hv29 => (intro w hSw; (try dsimp only at hSw); go_simp; (try simp only [run_eql_slice_nil _ 27 _ _ _ _ Try.underlying27, Result.andThen_ok]); (try with_reducible rfl))); (case ha29 => (simp only [Act.put, List.setIfInBounds_toArray, List.set_cons_zero, List.set_cons_succ, Option.isNone_none, Option.isNone_some, Bool.not_true, Bool.not_false]; (try with_reducible rfl))); (case hl29 => (simp only [Act.put, List.setIfInBounds_toArray, List.set_cons_zero, List.set_cons_succ, Option.isNone_none, Option.isNone_some, Bool.not_true, Bool.not_false]; (try with_reducible rfl))))); (first | (refine held_skip (i := 29) (a' := ?hA30) (l' := ?hL30) rfl (by kernel_rfl) (by kernel_rfl) (by kernel_rfl) (fun _ _ _ h => h) (by rfl) (by assumption) ?ha30 ?hl30 ?hh30; (case ha30 => (simp only [Act.put, List.setIfInBounds_toArray, List.set_cons_zero, List.set_cons_succ, Option.isNone_none, Option.isNone_some, Bool.not_true, Bool.not_false]; (try with_reducible rfl))); (case hl30 => (simp only [Act.put, List.setIfInBounds_toArray, List.set_cons_zero, List.set_cons_succ, Option.isNone_none, Option.isNone_some, Bool.not_true, Bool.not_false]; (try with_reducible rfl)))) | (refine held_take (i := 29) (v := ?hV30) (a' := ?hA30) (l' := ?hL30) rfl (by kernel_rfl) (by kernel_rfl) (by kernel_rfl) (fun _ _ _ h => h) (by rfl) ?hv30 (by assumption) ?ha30 ?hl30 ?hh30; (case hv30 => (intro w hSw; (try dsimp only at hSw); go_simp; (try simp only [run_eql_slice_nil _ 27 _ _ _ _ Try.underlying27, Result.andThen_ok]); (try with_reducible rfl))); (case ha30 => (simp only [Act.put, List.setIfInBounds_toArray, List.set_cons_zero, List.set_cons_succ, Option.isNone_none, Option.isNone_some, Bool.not_true, Bool.not_false]; (try with_reducible rfl))); (case hl30 => (simp only [Act.put, List.setIfInBounds_toArray, List.set_cons_zero, List.set_cons_succ, Option.isNone_none, Option.isNone_some, Bool.not_true, Bool.not_false]; (try with_reducible rfl))))); (first | (refine held_skip (i := 30) (a' := ?hA31) (l' := ?hL31) rfl (by kernel_rfl) (by kernel_rfl) (by kernel_rfl) (fun _ _ _ h => h) (by rfl) (by assumption) ?ha31 ?hl31 ?hh31; (case ha31 => (simp only [Act.put, List.setIfInBounds_toArray, List.set_cons_zero, List.set_cons_succ, Option.isNone_none, Option.isNone_some, Bool.not_true, Bool.not_false]; (try with_reducible rfl))); (case hl31 => (simp only [Act.put, List.setIfInBounds_toArray, List.set_cons_zero, List.set_cons_succ, Option.isNone_none, Option.isNone_some, Bool.not_true, Bool.not_false]; (try with_reducible rfl)))) | (refine held_take (i := 30) (v := ?hV31) (a' := ?hA31) (l' := ?hL31) rfl (by kernel_rfl) (by kernel_rfl) (by kernel_rfl) (fun _ _ _ h => h) (by rfl) ?hv31 (by assumption) ?ha31 ?hl31 ?hh31; (case hv31 => (intro w hSw; (try dsimp only at hSw); go_simp; (try simp only [run_eql_slice_nil _ 27 _ _ _ _ Try.underlying27, Result.andThen_ok]); (try with_reducible rfl))); (case ha31 => (simp only [Act.put, List.setIfInBounds_toArray, List.set_cons_zero, List.set_cons_succ, Option.isNone_none, Option.isNone_some, Bool.not_true, Bool.not_false]; (try with_reducible rfl))); (case hl31 => (simp only [Act.put, List.setIfInBounds_toArray, List.set_cons_zero, List.set_cons_succ, Option.isNone_none, Option.isNone_some, Bool.not_true, Bool.not_false]; (try with_reducible rfl))))); (first | (refine held_skip (i := 31) (a' := ?hA32) (l' := ?hL32) rfl (by kernel_rfl) (by kernel_rfl) (by kernel_rfl) (fun _ _ _ h => h) (by rfl) (by assumption) ?ha32 ?hl32 ?hh32; (case ha32 => (simp only [Act.put, List.setIfInBounds_toArray, List.set_cons_zero, List.set_cons_succ, Option.isNone_none, Option.isNone_some, Bool.not_true, Bool.not_false]; (try with_reducible rfl))); (case hl32 => (simp only [Act.put, List.setIfInBounds_toArray, List.set_cons_zero, List.set_cons_succ, Option.isNone_none, Option.isNone_some, Bool.not_true, Bool.not_false]; (try with_reducible rfl)))) | (refine held_take (i := 31) (v := ?hV32) (a' := ?hA32) (l' := ?hL32) rfl (by kernel_rfl) (by kernel_rfl) (by kernel_rfl) (fun _ _ _ h => h) (by rfl) ?hv32 (by assumption) ?ha32 ?hl32 ?hh32; (case hv32 => (intro w hSw; (try dsimp only at hSw); go_simp; (try simp only [run_eql_slice_nil _ 27 _ _ _ _ Try.underlying27, Result.andThen_ok]); (try with_reducible rfl))); (case ha32 => (simp only [Act.put, List.setIfInBounds_toArray, List.set_cons_zero, List.set_cons_succ, Option.isNone_none, Option.isNone_some, Bool.not_true, Bool.not_false]; (try with_reducible rfl))); (case hl32 => (simp only [Act.put, List.setIfInBounds_toArray, List.set_cons_zero, List.set_cons_succ, Option.isNone_none, Option.isNone_some, Bool.not_true, Bool.not_false]; (try with_reducible rfl))))); (first | (refine held_skip (i := 32) (a' := ?hA33) (l' := ?hL33) rfl (by kernel_rfl) (by kernel_rfl) (by kernel_rfl) (fun _ _ _ h => h) (by rfl) (by assumption) ?ha33 ?hl33 ?hh33; (case ha33 => (simp only [Act.put, List.setIfInBounds_toArray, List.set_cons_zero, List.set_cons_succ, Option.isNone_none, Option.isNone_some, Bool.not_true, Bool.not_false]; (try with_reducible rfl))); (case hl33 => (simp only [Act.put, List.setIfInBounds_toArray, List.set_cons_zero, List.set_cons_succ, Option.isNone_none, Option.isNone_some, Bool.not_true, Bool.not_false]; (try with_reducible rfl)))) | (refine held_take (i := 32) (v := ?hV33) (a' := ?hA33) (l' := ?hL33) rfl (by kernel_rfl) (by kernel_rfl) (by kernel_rfl) (fun _ _ _ h => h) (by rfl) ?hv33 (by assumption) ?ha33 ?hl33 ?hh33; (case hv33 => (intro w hSw; (try dsimp only at hSw); go_simp; (try simp only [run_eql_slice_nil _ 27 _ _ _ _ Try.underlying27, Result.andThen_ok]); (try with_reducible rfl))); (case ha33 => (simp only [Act.put, List.setIfInBounds_toArray, List.set_cons_zero, List.set_cons_succ, Option.isNone_none, Option.isNone_some, Bool.not_true, Bool.not_false]; (try with_reducible rfl))); (case hl33 => (simp only [Act.put, List.setIfInBounds_toArray, List.set_cons_zero, List.set_cons_succ, Option.isNone_none, Option.isNone_some, Bool.not_true, Bool.not_false]; (try with_reducible rfl))))); (first | (refine held_skip (i := 33) (a' := ?hA34) (l' := ?hL34) rfl (by kernel_rfl) (by kernel_rfl) (by kernel_rfl) (fun _ _ _ h => h) (by rfl) (by assumption) ?ha34 ?hl34 ?hh34; (case ha34 => (simp only [Act.put, List.setIfInBounds_toArray, List.set_cons_zero, List.set_cons_succ, Option.isNone_none, Option.isNone_some, Bool.not_true, Bool.not_false]; (try with_reducible rfl))); (case hl34 => (simp only [Act.put, List.setIfInBounds_toArray, List.set_cons_zero, List.set_cons_succ, Option.isNone_none, Option.isNone_some, Bool.not_true, Bool.not_false]; (try with_reducible rfl)))) | (refine held_take (i := 33) (v := ?hV34) (a' := ?hA34) (l' := ?hL34) rfl (by kernel_rfl) (by kernel_rfl) (by kernel_rfl) (fun _ _ _ h => h) (by rfl) ?hv34 (by assumption) ?ha34 ?hl34 ?hh34; (case hv34 => (intro w hSw; (try dsimp only at hSw); go_simp; (try simp only [run_eql_slice_nil _ 27 _ _ _ _ Try.underlying27, Result.andThen_ok]); (try with_reducible rfl))); (case ha34 => (simp only [Act.put, List.setIfInBounds_toArray, List.set_cons_zero, List.set_cons_succ, Option.isNone_none, Option.isNone_some, Bool.not_true, Bool.not_false]; (try with_reducible rfl))); (case hl34 => (simp only [Act.put, List.setIfInBounds_toArray, List.set_cons_zero, List.set_cons_succ, Option.isNone_none, Option.isNone_some, Bool.not_true, Bool.not_false]; (try with_reducible rfl))))); (first | (refine held_skip (i := 34) (a' := ?hA35) (l' := ?hL35) rfl (by kernel_rfl) (by kernel_rfl) (by kernel_rfl) (fun _ _ _ h => h) (by rfl) (by assumption) ?ha35 ?hl35 ?hh35; (case ha35 => (simp only [Act.put, List.setIfInBounds_toArray, List.set_cons_zero, List.set_cons_succ, Option.isNone_none, Option.isNone_some, Bool.not_true, Bool.not_false]; (try with_reducible rfl))); (case hl35 => (simp only [Act.put, List.setIfInBounds_toArray, List.set_cons_zero, List.set_cons_succ, Option.isNone_none, Option.isNone_some, Bool.not_true, Bool.not_false]; (try with_reducible rfl)))) | (refine held_take (i := 34) (v := ?hV35) (a' := ?hA35) (l' := ?hL35) rfl (by kernel_rfl) (by kernel_rfl) (by kernel_rfl) (fun _ _ _ h => h) (by rfl) ?hv35 (by assumption) ?ha35 ?hl35 ?hh35; (case hv35 => (intro w hSw; (try dsimp only at hSw); go_simp; (try simp only [run_eql_slice_nil _ 27 _ _ _ _ Try.underlying27, Result.andThen_ok]); (try with_reducible rfl))); (case ha35 => (simp only [Act.put, List.setIfInBounds_toArray, List.set_cons_zero, List.set_cons_succ, Option.isNone_none, Option.isNone_some, Bool.not_true, Bool.not_false]; (try with_reducible rfl))); (case hl35 => (simp only [Act.put, List.setIfInBounds_toArray, List.set_cons_zero, List.set_cons_succ, Option.isNone_none, Option.isNone_some, Bool.not_true, Bool.not_false]; (try with_reducible rfl))))); (first | (refine held_skip (i := 35) (a' := ?hA36) (l' := ?hL36) rfl (by kernel_rfl) (by kernel_rfl) (by kernel_rfl) (fun _ _ _ h => h) (by rfl) (by assumption) ?ha36 ?hl36 ?hh36; (case ha36 => (simp only [Act.put, List.setIfInBounds_toArray, List.set_cons_zero, List.set_cons_succ, Option.isNone_none, Option.isNone_some, Bool.not_true, Bool.not_false]; (try with_reducible rfl))); (case hl36 => (simp only [Act.put, List.setIfInBounds_toArray, List.set_cons_zero, List.set_cons_succ, Option.isNone_none, Option.isNone_some, Bool.not_true, Bool.not_false]; (try with_reducible rfl)))) | (refine held_take (i := 35) (v := ?hV36) (a' := ?hA36) (l' := ?hL36) rfl (by kernel_rfl) (by kernel_rfl) (by kernel_rfl) (fun _ _ _ h => h) (by rfl) ?hv36 (by assumption) ?ha36 ?hl36 ?hh36; (case hv36 => (intro w hSw; (try dsimp only at hSw); go_simp; (try simp only [run_eql_slice_nil _ 27 _ _ _ _ Try.underlying27, Result.andThen_ok]); (try with_reducible rfl))); (case ha36 => (simp only [Act.put, List.setIfInBounds_toArray, List.set_cons_zero, List.set_cons_succ, Option.isNone_none, Option.isNone_some, Bool.not_true, Bool.not_false]; (try with_reducible rfl))); (case hl36 => (simp only [Act.put, List.setIfInBounds_toArray, List.set_cons_zero, List.set_cons_succ, Option.isNone_none, Option.isNone_some, Bool.not_true, Bool.not_false]; (try with_reducible rfl))))); (first | (refine held_skip (i := 36) (a' := ?hA37) (l' := ?hL37) rfl (by kernel_rfl) (by kernel_rfl) (by kernel_rfl) (fun _ _ _ h => h) (by rfl) (by assumption) ?ha37 ?hl37 ?hh37; (case ha37 => (simp only [Act.put, List.setIfInBounds_toArray, List.set_cons_zero, List.set_cons_succ, Option.isNone_none, Option.isNone_some, Bool.not_true, Bool.not_false]; (try with_reducible rfl))); (case hl37 => (simp only [Act.put, List.setIfInBounds_toArray, List.set_cons_zero, List.set_cons_succ, Option.isNone_none, Option.isNone_some, Bool.not_true, Bool.not_false]; (try with_reducible rfl)))) | (refine held_take (i := 36) (v := ?hV37) (a' := ?hA37) (l' := ?hL37) rfl (by kernel_rfl) (by kernel_rfl) (by kernel_rfl) (fun _ _ _ h => h) (by rfl) ?hv37 (by assumption) ?ha37 ?hl37 ?hh37; (case hv37 => (intro w hSw; (try dsimp only at hSw); go_simp; (try simp only [run_eql_slice_nil _ 27 _ _ _ _ Try.underlying27, Result.andThen_ok]); (try with_reducible rfl))); (case ha37 => (simp only [Act.put, List.setIfInBounds_toArray, List.set_cons_zero, List.set_cons_succ, Option.isNone_none, Option.isNone_some, Bool.not_true, Bool.not_false]; (try with_reducible rfl))); (case hl37 => (simp only [Act.put, List.setIfInBounds_toArray, List.set_cons_zero, List.set_cons_succ, Option.isNone_none, Option.isNone_some, Bool.not_true, Bool.not_false]; (try with_reducible rfl))))))
              refine wpAnyH_done (by kernel_rfl) ?_ _
              go_wp2_with fail
              go_roundw
              case rel => exact ⟨k + 1, by omega, by go_num, by rw [HA'.out], HF.out.drew⟩
              case measure => simp [intOf]; omega
            | some l2 =>
              obtain ⟨ad2, d2, hcb, hd2, hs2⟩ := hkb.some hxb
              obtain rfl : l2 = l := by have := HTB.out k l2 hxb; rw [HLX.out] at this; injection this with this; exact this.symm
              have hSD : Hid (∀ w', Fr wr w' → w'.cell? ⟨g5, k, none⟩ = some (.slice (some ad2) K d2)) := fun w' hf => (hf.cell (p := ⟨g5, k, none⟩) (World.block_lt_of_cell? wr _ hcb)).trans hcb
              have CE2 := Lib.hid (CE.out wr.drew (some ad2) K d2 (Below.refl _ _).drew hKm (hs2.more sByte fun y hy => Nat.lt_of_lt_of_le hy.1 HF.out.size))
              clear hka hkb hxa hxb hcl hcb hs2
              go_wp2_with fail
              refine held_begin (n := 37) (bs := #[false, false, false, false, false, false, false, false, false, false, false, false, false, false, false, false, false, false, false, false, false, false, false, false, false, false, false, false, false, false, false, false, false, false, false, false, false]) rfl rfl (by kernel_rfl) (S := fun w' => w'.cell? (adx.add k) = some (.slice A' n' c') ∧ w'.cell? ⟨g5, k, none⟩ = some (.slice (some ad2) K d2)) ⟨hSC.out _ (Below.refl _ _).drew, hSD.out _ (Below.refl _ _).drew⟩ (fun hHeld => ?_)
              ((first | (refine held_skip (i := 0) (a' := ?hA38) (l' := ?hL38) rfl (by kernel_rfl) (by kernel_rfl) (by kernel_rfl) (fun _ _ _ h => h) (by rfl) (by assumption) ?ha38 ?hl38 ?hh38; (case ha38 => (simp only [Act.put, List.setIfInBounds_toArray, List.set_cons_zero, List.set_cons_succ, Option.isNone_none, Option.isNone_some, Bool.not_true, Bool.not_false]; (try with_reducible rfl))); (case hl38 => (simp only [Act.put, List.setIfInBounds_toArray, List.set_cons_zero, List.set_cons_succ, Option.isNone_none, Option.isNone_some, Bool.not_true, Bool.not_false]; (try with_reducible rfl)))) | (refine held_take (i := 0) (v := ?hV38) (a' := ?hA38) (l' := ?hL38) rfl (by kernel_rfl) (by kernel_rfl) (by kernel_rfl) (fun _ _ _ h => h) (by rfl) ?hv38 (by assumption) ?ha38 ?hl38 ?hh38; (case hv38 => (intro w hSw; (try dsimp only at hSw); go_simp; (try simp only [run_eql_slice_nil _ 27 _ _ _ _ Try.underlying27, Result.andThen_ok]); (try with_reducible rfl))); (case ha38 => (simp only [Act.put, List.setIfInBounds_toArray, List.set_cons_zero, List.set_cons_succ, Option.isNone_none, Option.isNone_some, Bool.not_true, Bool.not_false]; (try with_reducible rfl))); (case hl38 => (simp only [Act.put, List.setIfInBounds_toArray, List.set_cons_zero, List.set_cons_succ, Option.isNone_none, Option.isNone_some, Bool.not_true, Bool.not_false]; (try with_reducible rfl))))); (first | (refine held_skip (i := 1) (a' := ?hA39) (l' := ?hL39) rfl (by kernel_rfl) (by kernel_rfl) (by kernel_rfl) (fun _ _ _ h => h) (by rfl) (by assumption) ?ha39 ?hl39 ?hh39; (case ha39 => (simp only [Act.put, List.setIfInBounds_toArray, List.set_cons_zero, List.set_cons_succ, Option.isNone_none, Option.isNone_some, Bool.not_true, Bool.not_false]; (try with_reducible rfl))); (case hl39 => (simp only [Act.put, List.setIfInBounds_toArray, List.set_cons_zero, List.set_cons_succ, Option.isNone_none, Option.isNone_some, Bool.not_true, Bool.not_false]; (try with_reducible rfl)))) | (refine held_take (i := 1) (v := ?hV39) (a' := ?hA39) (l' := ?hL39) rfl (by kernel_rfl) (by kernel_rfl) (by kernel_rfl) (fun _ _ _ h => h) (by rfl) ?hv39 (by assumption) ?ha39 ?hl39 ?hh39; (case hv39 => (intro w hSw; (try dsimp only at hSw); go_simp; (try simp only [run_eql_slice_nil _ 27 _ _ _ _ Try.underlying27, Result.andThen_ok]); (try with_reducible rfl))); (case ha39 => (simp only [Act.put, List.setIfInBounds_toArray, List.set_cons_zero, List.set_cons_succ, Option.isNone_none, Option.isNone_some, Bool.not_true, Bool.not_false]; (try with_reducible rfl))); (case hl39 => (simp only [Act.put, List.setIfInBounds_toArray, List.set_cons_zero, List.set_cons_succ, Option.isNone_none, Option.isNone_some, Bool.not_true, Bool.not_false]; (try with_reducible rfl))))); (first | (refine held_skip (i := 2) (a' := ?hA40) (l' := ?hL40) rfl (by kernel_rfl) (by kernel_rfl) (by kernel_rfl) (fun _ _ _ h => h) (by rfl) (by assumption) ?ha40 ?hl40 ?hh40; (case ha40 => (simp only [Act.put, List.setIfInBounds_toArray, List.set_cons_zero, List.set_cons_succ, Option.isNone_none, Option.isNone_some, Bool.not_true, Bool.not_false]; (try with_reducible rfl))); (case hl40 => (simp only [Act.put, List.setIfInBounds_toArray, List.set_cons_zero, List.set_cons_succ, Option.isNone_none, Option.isNone_some, Bool.not_true, Bool.not_false]; (try with_reducible rfl)))) | (refine held_take (i := 2) (v := ?hV40) (a' := ?hA40) (l' := ?hL40) rfl (by kernel_rfl) (by kernel_rfl) (by kernel_rfl) (fun _ _ _ h => h) (by rfl) ?hv40 (by assumption) ?ha40 ?hl40 ?hh40; (case hv40 => (intro w hSw; (try dsimp only at hSw); go_simp; (try simp only [run_eql_slice_nil _ 27 _ _ _ _ Try.underlying27, Result.andThen_ok]); (try with_reducible rfl))); (case ha40 => (simp only [Act.put, List.setIfInBounds_toArray, List.set_cons_zero, List.set_cons_succ, Option.isNone_none, Option.isNone_some, Bool.not_true, Bool.not_false]; (try with_reducible rfl))); (case hl40 => (simp only [Act.put, List.setIfInBounds_toArray, List.set_cons_zero, List.set_cons_succ, Option.isNone_none, Option.isNone_some, Bool.not_true, Bool.not_false]; (try with_reducible rfl))))); (first | (refine held_skip (i := 3) (a' := ?hA41) (l' := ?hL41) rfl (by kernel_rfl) (by kernel_rfl) (by kernel_rfl) (fun _ _ _ h => h) (by rfl) (by assumption) ?ha41 ?hl41 ?hh41; (case ha41 => (simp only [Act.put, List.setIfInBounds_toArray, List.set_cons_zero, List.set_cons_succ, Option.isNone_none, Option.isNone_some, Bool.not_true, Bool.not_false]; (try with_reducible rfl))); (case hl41 => (simp only [Act.put, List.setIfInBounds_toArray, List.set_cons_zero, List.set_cons_succ, Option.isNone_none, Option.isNone_some, Bool.not_true, Bool.not_false]; (try with_reducible rfl)))) | (refine held_take (i := 3) (v := ?hV41) (a' := ?hA41) (l' := ?hL41) rfl (by kernel_rfl) (by kernel_rfl) (by kernel_rfl) (fun _ _ _ h => h) (by rfl) ?hv41 (by assumption) ?ha41 ?hl41 ?hh41; (case hv41 => (intro w hSw; (try dsimp only at hSw); go_simp; (try simp only [run_eql_slice_nil _ 27 _ _ _ _ Try.underlying27, Result.andThen_ok]); (try with_reducible rfl))); (case ha41 => (simp only [Act.put, List.setIfInBounds_toArray, List.set_cons_zero, List.set_cons_succ, Option.isNone_none, Option.isNone_some, Bool.not_true, Bool.not_false]; (try with_reducible rfl))); (case hl41 => (simp only [Act.put, List.setIfInBounds_toArray, List.set_cons_zero, List.set_cons_succ, Option.isNone_none, Option.isNone_some, Bool.not_true, Bool.not_false]; (try with_reducible rfl))))); (first | (refine held_skip (i := 4) (a' := ?hA42) (l' := ?hL42) rfl (by kernel_rfl) (by kernel_rfl) (by kernel_rfl) (fun _ _ _ h => h) (by rfl) (by assumption) ?ha42 ?hl42 ?hh42; (case ha42 => (simp only [Act.put, List.setIfInBounds_toArray, List.set_cons_zero, List.set_cons_succ, Option.isNone_none, Option.isNone_some, Bool.not_true, Bool.not_false]; (try with_reducible rfl))); (case hl42 => (simp only [Act.put, List.setIfInBounds_toArray, List.set_cons_zero, List.set_cons_succ, Option.isNone_none, Option.isNone_some, Bool.not_true, Bool.not_false]; (try with_reducible rfl)))) | (refine held_take (i := 4) (v := ?hV42) (a' := ?hA42) (l' := ?hL42) rfl (by kernel_rfl) (by kernel_rfl) (by kernel_rfl) (fun _ _ _ h => h) (by rfl) ?hv42 (by assumption) ?ha42 ?hl42 ?hh42; (case hv42 => (intro w hSw; (try dsimp only at hSw); go_simp; (try simp only [run_eql_slice_nil _ 27 _ _ _ _ Try.underlying27, Result.andThen_ok]); (try with_reducible rfl))); (case ha42 => (simp only [Act.put, List.setIfInBounds_toArray, List.set_cons_zero, List.set_cons_succ, Option.isNone_none, Option.isNone_some, Bool.not_true, Bool.not_false]; (try with_reducible rfl))); (case hl42 => (simp only [Act.put, List.setIfInBounds_toArray, List.set_cons_zero, List.set_cons_succ, Option.isNone_none, Option.isNone_some, Bool.not_true, Bool.not_false]; (try with_reducible rfl))))); (first | (refine held_skip (i := 5) (a' := ?hA43) (l' := ?hL43) rfl (by kernel_rfl) (by kernel_rfl) (by kernel_rfl) (fun _ _ _ h => h) (by rfl) (by assumption) ?ha43 ?hl43 ?hh43; (case ha43 => (simp only [Act.put, List.setIfInBounds_toArray, List.set_cons_zero, List.set_cons_succ, Option.isNone_none, Option.isNone_some, Bool.not_true, Bool.not_false]; (try with_reducible rfl))); (case hl43 => (simp only [Act.put, List.setIfInBounds_toArray, List.set_cons_zero, List.set_cons_succ, Option.isNone_none, Option.isNone_some, Bool.not_true, Bool.not_false]; (try with_reducible rfl)))) | (refine held_take (i := 5) (v := ?hV43) (a' := ?hA43) (l' := ?hL43) rfl (by kernel_rfl) (by kernel_rfl) (by kernel_rfl) (fun _ _ _ h => h) (by rfl) ?hv43 (by assumption) ?ha43 ?hl43 ?hh43; (case hv43 => (intro w hSw; (try dsimp only at hSw); go_simp; (try simp only [run_eql_slice_nil _ 27 _ _ _ _ Try.underlying27, Result.andThen_ok]); (try with_reducible rfl))); (case ha43 => (simp only [Act.put, List.setIfInBounds_toArray, List.set_cons_zero, List.set_cons_succ, Option.isNone_none, Option.isNone_some, Bool.not_true, Bool.not_false]; (try with_reducible rfl))); (case hl43 => (simp only [Act.put, List.setIfInBounds_toArray, List.set_cons_zero, List.set_cons_succ, Option.isNone_none, Option.isNone_some, Bool.not_true, Bool.not_false]; (try with_reducible rfl))))); (first | (refine held_skip (i := 6) (a' := ?hA44) (l' := ?hL44) rfl (by kernel_rfl) (by kernel_rfl) (by kernel_rfl) (fun _ _ _ h => h) (by rfl) (by assumption) ?ha44 ?hl44 ?hh44; (case ha44 => (simp only [Act.put, List.setIfInBounds_toArray, List.set_cons_zero, List.set_cons_succ, Option.isNone_none, Option.isNone_some, Bool.not_true, Bool.not_false]; (try with_reducible rfl))); (case hl44 => (simp only [Act.put, List.setIfInBounds_toArray, List.set_cons_zero, List.set_cons_succ, Option.isNone_none, Option.isNone_some, Bool.not_true, Bool.not_false]; (try with_reducible rfl)))) | (refine held_take (i := 6) (v := ?hV44) (a' := ?hA44) (l' := ?hL44) rfl (by kernel_rfl) (by kernel_rfl) (by kernel_rfl) (fun _ _ _ h => h) (by rfl) ?hv44 (by assumption) ?ha44 ?hl44 ?hh44; (case hv44 => (intro w hSw; (try dsimp only at hSw); go_simp; (try simp only [run_eql_slice_nil _ 27 _ _ _ _ Try.underlying27, Result.andThen_ok]); (try with_reducible rfl))); (case ha44 => (simp only [Act.put, List.setIfInBounds_toArray, List.set_cons_zero, List.set_cons_succ, Option.isNone_none, Option.isNone_some, Bool.not_true, Bool.not_false]; (try with_reducible rfl))); (case hl44 => (simp only [Act.put, List.setIfInBounds_toArray, List.set_cons_zero, List.set_cons_succ, Option.isNone_none, Option.isNone_some, Bool.not_true, Bool.not_false]; (try with_reducible rfl))))); (first | (refine held_skip (i := 7) (a' := ?hA45) (l' := ?hL45) rfl (by kernel_rfl) (by kernel_rfl) (by kernel_rfl) (fun _ _ _ h => h) (by rfl) (by assumption) ?ha45 ?hl45 ?hh45; (case ha45 => (simp only [Act.put, List.setIfInBounds_toArray, List.set_cons_zero, List.set_cons_succ, Option.isNone_none, Option.isNone_some, Bool.not_true, Bool.not_false]; (try with_reducible rfl))); (case hl45 => (simp only [Act.put, List.setIfInBounds_toArray, List.set_cons_zero, List.set_cons_succ, Option.isNone_none, Option.isNone_some, Bool.not_true, Bool.not_false]; (try with_reducible rfl)))) | (refine held_take (i := 7) (v := ?hV45) (a' := ?hA45) (l' := ?hL45) rfl (by kernel_rfl) (by kernel_rfl) (by kernel_rfl) (fun _ _ _ h => h) (by rfl) ?hv45 (by assumption) ?ha45 ?hl45 ?hh45; (case hv45 => (intro w hSw; (try dsimp only at hSw); go_simp; (try simp only [run_eql_slice_nil _ 27 _ _ _ _ Try.underlying27, Result.andThen_ok]); (try with_reducible rfl))); (case ha45 => (simp only [Act.put, List.setIfInBounds_toArray, List.set_cons_zero, List.set_cons_succ, Option.isNone_none, Option.isNone_some, Bool.not_true, Bool.not_false]; (try with_reducible rfl))); (case hl45 => (simp only [Act.put, List.setIfInBounds_toArray, List.set_cons_zero, List.set_cons_succ, Option.isNone_none, Option.isNone_some, Bool.not_true, Bool.not_false]; (try with_reducible rfl))))); (first | (refine held_skip (i := 8) (a' := ?hA46) (l' := ?hL46) rfl (by kernel_rfl) (by kernel_rfl) (by kernel_rfl) (fun _ _ _ h => h) (by rfl) (by assumption) ?ha46 ?hl46 ?hh46; (case ha46 => (simp only [Act.put, List.setIfInBounds_toArray, List.set_cons_zero, List.set_cons_succ, Option.isNone_none, Option.isNone_some, Bool.not_true, Bool.not_false]; (try with_reducible rfl))); (case hl46 => (simp only [Act.put, List.setIfInBounds_toArray, List.set_cons_zero, List.set_cons_succ, Option.isNone_none, Option.isNone_some, Bool.not_true, Bool.not_false]; (try with_reducible rfl)))) | (refine held_take (i := 8) (v := ?hV46) (a' := ?hA46) (l' := ?hL46) rfl (by kernel_rfl) (by kernel_rfl) (by kernel_rfl) (fun _ _ _ h => h) (by rfl) ?hv46 (by assumption) ?ha46 ?hl46 ?hh46; (case hv46 => (intro w hSw; (try dsimp only at hSw); go_simp; (try simp only [run_eql_slice_nil _ 27 _ _ _ _ Try.underlying27, Result.andThen_ok]); (try with_reducible rfl))); (case ha46 => (simp only [Act.put, List.setIfInBounds_toArray, List.set_cons_zero, List.set_cons_succ, Option.isNone_none, Option.isNone_some, Bool.not_true, Bool.not_false]; (try with_reducible rfl))); (case hl46 => (simp only [Act.put, List.setIfInBounds_toArray, List.set_cons_zero, List.set_cons_succ, Option.isNone_none, Option.isNone_some, Bool.not_true, Bool.not_false]; (try with_reducible rfl))))); (first | (refine held_skip (i := 9) (a' := ?hA47) (l' := ?hL47) rfl (by kernel_rfl) (by kernel_rfl) (by kernel_rfl) (fun _ _ _ h => h) (by rfl) (by assumption) ?ha47 ?hl47 ?hh47; (case ha47 => (simp only [Act.put, List.setIfInBounds_toArray, List.set_cons_zero, List.set_cons_succ, Option.isNone_none, Option.isNone_some, Bool.not_true, Bool.not_false]; (try with_reducible rfl))); (case hl47 => (simp only [Act.put, List.setIfInBounds_toArray, List.set_cons_zero, List.set_cons_succ, Option.isNone_none, Option.isNone_some, Bool.not_true, Bool.not_false]; (try with_reducible rfl)))) | (refine held_take (i := 9) (v := ?hV47) (a' := ?hA47) (l' := ?hL47) rfl (by kernel_rfl) (by kernel_rfl) (by kernel_rfl) (fun _ _ _ h => h) (by rfl) ?hv47 (by assumption) ?ha47 ?hl47 ?hh47; (case hv47 => (intro w hSw; (try dsimp only at hSw); go_simp; (try simp only [run_eql_slice_nil _ 27 _ _ _ _ Try.underlying27, Result.andThen_ok]); (try with_reducible rfl))); (case ha47 => (simp only [Act.put, List.setIfInBounds_toArray, List.set_cons_zero, List.set_cons_succ, Option.isNone_none, Option.isNone_some, Bool.not_true, Bool.not_false]; (try with_reducible rfl))); (case hl47 => (simp only [Act.put, List.setIfInBounds_toArray, List.set_cons_zero, List.set_cons_succ, Option.isNone_none, Option.isNone_some, Bool.not_true, Bool.not_false]; (try with_reducible rfl))))); (first | (refine held_skip (i := 10) (a' := ?hA48) (l' := ?hL48) rfl (by kernel_rfl) (by kernel_rfl) (by kernel_rfl) (fun _ _ _ h => h) (by rfl) (by assumption) ?ha48 ?hl48 ?hh48; (case ha48 => (simp only [Act.put, List.setIfInBounds_toArray, List.set_cons_zero, List.set_cons_succ, Option.isNone_none, Option.isNone_some, Bool.not_true, Bool.not_false]; (try with_reducible rfl))); (case hl48 => (simp only [Act.put, List.setIfInBounds_toArray, List.set_cons_zero, List.set_cons_succ, Option.isNone_none, Option.isNone_some, Bool.not_true, Bool.not_false]; (try with_reducible rfl)))) | (refine held_take (i := 10) (v := ?hV48) (a' := ?hA48) (l' := ?hL48) rfl (by kernel_rfl) (by kernel_rfl) (by kernel_rfl) (fun _ _ _ h => h) (by rfl) ?hv48 (by assumption) ?ha48 ?hl48 ?hh48; (case hv48 => (intro w hSw; (try dsimp only at hSw); go_simp; (try simp only [run_eql_slice_nil _ 27 _ _ _ _ Try.underlying27, Result.andThen_ok]); (try with_reducible rfl))); (case ha48 => (simp only [Act.put, List.setIfInBounds_toArray, List.set_cons_zero, List.set_cons_succ, Option.isNone_none, Option.isNone_some, Bool.not_true, Bool.not_false]; (try with_reducible rfl))); (case hl48 => (simp only [Act.put, List.setIfInBounds_toArray, List.set_cons_zero, List.set_cons_succ, Option.isNone_none, Option.isNone_some, Bool.not_true, Bool.not_false]; (try with_reducible rfl))))); (first | (refine held_skip (i := 11) (a' := ?hA49) (l' := ?hL49) rfl (by kernel_rfl) (by kernel_rfl) (by kernel_rfl) (fun _ _ _ h => h) (by rfl) (by assumption) ?ha49 ?hl49 ?hh49; (case ha49 => (simp only [Act.put, List.setIfInBounds_toArray, List.set_cons_zero, List.set_cons_succ, Option.isNone_none, Option.isNone_some, Bool.not_true, Bool.not_false]; (try with_reducible rfl))); (case hl49 => (simp only [Act.put, List.setIfInBounds_toArray, List.set_cons_zero, List.set_cons_succ, Option.isNone_none, Option.isNone_some, Bool.not_true, Bool.not_false]; (try with_reducible rfl)))) | (refine held_take (i := 11) (v := ?hV49) (a' := ?hA49) (l' := ?hL49) rfl (by kernel_rfl) (by kernel_rfl) (by kernel_rfl) (fun _ _ _ h => h) (by rfl) ?hv49 (by assumption) ?ha49 ?hl49 ?hh49; (case hv49 => (intro w hSw; (try dsimp only at hSw); go_simp; (try simp only [run_eql_slice_nil _ 27 _ _ _ _ Try.underlying27, Result.andThen_ok]); (try with_reducible rfl))); (case ha49 => (simp only [Act.put, List.setIfInBounds_toArray, List.set_cons_zero, List.set_cons_succ, Option.isNone_none, Option.isNone_some, Bool.not_true, Bool.not_false]; (try with_reducible rfl))); (case hl49 => (simp only [Act.put, List.setIfInBounds_toArray, List.set_cons_zero, List.set_cons_succ, Option.isNone_none, Option.isNone_some, Bool.not_true, Bool.not_false]; (try with_reducible rfl))))); (first | (refine held_skip (i := 12) (a' := ?hA50) (l' := ?hL50) rfl (by kernel_rfl) (by kernel_rfl) (by kernel_rfl) (fun _ _ _ h => h) (by rfl) (by assumption) ?ha50 ?hl50 ?hh50; (case ha50 => (simp only [Act.put, List.setIfInBounds_toArray, List.set_cons_zero, List.set_cons_succ, Option.isNone_none, Option.isNone_some, Bool.not_true, Bool.not_false]; (try with_reducible rfl))); (case hl50 => (simp only [Act.put, List.setIfInBounds_toArray, List.set_cons_zero, List.set_cons_succ, Option.isNone_none, Option.isNone_some, Bool.not_true, Bool.not_false]; (try with_reducible rfl)))) | (refine held_take (i := 12) (v := ?hV50) (a' := ?hA50) (l' := ?hL50) rfl (by kernel_rfl) (by kernel_rfl) (by kernel_rfl) (fun _ _ _ h => h) (by rfl) ?hv50 (by assumption) ?ha50 ?hl50 ?hh50; (case hv50 => (intro w hSw; (try dsimp only at hSw); go_simp; (try simp only [run_eql_slice_nil _ 27 _ _ _ _ Try.underlying27, Result.andThen_ok]); (try with_reducible rfl))); (case ha50 => (simp only [Act.put, List.setIfInBounds_toArray, List.set_cons_zero, List.set_cons_succ, Option.isNone_none, Option.isNone_some, Bool.not_true, Bool.not_false]; (try with_reducible rfl))); (case hl50 => (simp only [Act.put, List.setIfInBounds_toArray, List.set_cons_zero, List.set_cons_succ, Option.isNone_none, Option.isNone_some, Bool.not_true, Bool.not_false]; (try with_reducible rfl))))); (first | (refine held_skip (i := 13) (a' := ?hA51) (l' := ?hL51) rfl (by kernel_rfl) (by kernel_rfl) (by kernel_rfl) (fun _ _ _ h => h) (by rfl) (by assumption) ?ha51 ?hl51 ?hh51; (case ha51 => (simp only [Act.put, List.setIfInBounds_toArray, List.set_cons_zero, List.set_cons_succ, Option.isNone_none, Option.isNone_some, Bool.not_true, Bool.not_false]; (try with_reducible rfl))); (case hl51 => (simp only [Act.put, List.setIfInBounds_toArray, List.set_cons_zero, List.set_cons_succ, Option.isNone_none, Option.isNone_some, Bool.not_true, Bool.not_false]; (try with_reducible rfl)))) | (refine held_take (i := 13) (v := ?hV51) (a' := ?hA51) (l' := ?hL51) rfl (by kernel_rfl) (by kernel_rfl) (by kernel_rfl) (fun _ _ _ h => h) (by rfl) ?hv51 (by assumption) ?ha51 ?hl51 ?hh51; (case hv51 => (intro w hSw; (try dsimp only at hSw); go_simp; (try simp only [run_eql_slice_nil _ 27 _ _ _ _ Try.underlying27, Result.andThen_ok]); (try with_reducible rfl))); (case ha51 => (simp only [Act.put, List.setIfInBounds_toArray, List.set_cons_zero, List.set_cons_succ, Option.isNone_none, Option.isNone_some, Bool.not_true, Bool.not_false]; (try with_reducible rfl))); (case hl51 => (simp only [Act.put, List.setIfInBounds_toArray, List.set_cons_zero, List.set_cons_succ, Option.isNone_none, Option.isNone_some, Bool.not_true, Bool.not_false]; (try with_reducible rfl))))); (first | (refine held_skip (i := 14) (a' := ?hA52) (l' := ?hL52) rfl (by kernel_rfl) (by kernel_rfl) (by kernel_rfl) (fun _ _ _ h => h) (by rfl) (by assumption) ?ha52 ?hl52 ?hh52; (case ha52 => (simp only [Act.put, List.setIfInBounds_toArray, List.set_cons_zero, List.set_cons_succ, Option.isNone_none, Option.isNone_some, Bool.not_true, Bool.not_false]; (try with_reducible rfl))); (case hl52 => (simp only [Act.put, List.setIfInBounds_toArray, List.set_cons_zero, List.set_cons_succ, Option.isNone_none, Option.isNone_some, Bool.not_true, Bool.not_false]; (try with_reducible rfl)))) | (refine held_take (i := 14) (v := ?hV52) (a' := ?hA52) (l' := ?hL52) rfl (by kernel_rfl) (by kernel_rfl) (by kernel_rfl) (fun _ _ _ h => h) (by rfl) ?hv52 (by assumption) ?ha52 ?hl52 ?hh52; (case hv52 => (intro w hSw; (try dsimp only at hSw); go_simp; (try simp only [run_eql_slice_nil _ 27 _ _ _ _ Try.underlying27, Result.andThen_ok]); (try with_reducible rfl))); (case ha52 => (simp only [Act.put, List.setIfInBounds_toArray, List.set_cons_zero, List.set_cons_succ, Option.isNone_none, Option.isNone_some, Bool.not_true, Bool.not_false]; (try with_reducible rfl))); (case hl52 => (simp only [Act.put, List.setIfInBounds_toArray, List.set_cons_zero, List.set_cons_succ, Option.isNone_none, Option.isNone_some, Bool.not_true, Bool.not_false]; (try with_reducible rfl))))); (first | (refine held_skip (i := 15) (a' := ?hA53) (l' := ?hL53) rfl (by kernel_rfl) (by kernel_rfl) (by kernel_rfl) (fun _ _ _ h => h) (by rfl) (by assumption) ?ha53 ?hl53 ?hh53; (case ha53 => (simp only [Act.put, List.setIfInBounds_toArray, List.set_cons_zero, List.set_cons_succ, Option.isNone_none, Option.isNone_some, Bool.not_true, Bool.not_false]; (try with_reducible rfl))); (case hl53 => (simp only [Act.put, List.setIfInBounds_toArray, List.set_cons_zero, List.set_cons_succ, Option.isNone_none, Option.isNone_some, Bool.not_true, Bool.not_false]; (try with_reducible rfl)))) | (refine held_take (i := 15) (v := ?hV53) (a' := ?hA53) (l' := ?hL53) rfl (by kernel_rfl) (by kernel_rfl) (by kernel_rfl) (fun _ _ _ h => h) (by rfl) ?hv53 (by assumption) ?ha53 ?hl53 ?hh53; (case hv53 => (intro w hSw; (try dsimp only at hSw); go_simp; (try simp only [run_eql_slice_nil _ 27 _ _ _ _ Try.underlying27, Result.andThen_ok]); (try with_reducible rfl))); (case ha53 => (simp only [Act.put, List.setIfInBounds_toArray, List.set_cons_zero, List.set_cons_succ, Option.isNone_none, Option.isNone_some, Bool.not_true, Bool.not_false]; (try with_reducible rfl))); (case hl53 => (simp only [Act.put, List.setIfInBounds_toArray, List.set_cons_zero, List.set_cons_succ, Option.isNone_none, Option.isNone_some, Bool.not_true, Bool.not_false]; (try with_reducible rfl))))); (first | (refine held_skip (i := 16) (a' := ?hA54) (l' := ?hL54) rfl (by kernel_rfl) (by kernel_rfl) (by kernel_rfl) (fun _ _ _ h => h) (by rfl) (by assumption) ?ha54 ?hl54 ?hh54; (case ha54 => (simp only [Act.put, List.setIfInBounds_toArray, List.set_cons_zero, List.set_cons_succ, Option.isNone_none, Option.isNone_some, Bool.not_true, Bool.not_false]; (try with_reducible rfl))); (case hl54 => (simp only [Act.put, List.setIfInBounds_toArray, List.set_cons_zero, List.set_cons_succ, Option.isNone_none, Option.isNone_some, Bool.not_true, Bool.not_false]; (try with_reducible rfl)))) | (refine held_take (i := 16) (v := ?hV54) (a' := ?hA54) (l' := ?hL54) rfl (by kernel_rfl) (by kernel_rfl) (by kernel_rfl) (fun _ _ _ h => h) (by rfl) ?hv54 (by assumption) ?ha54 ?hl54 ?hh54; (case hv54 => (intro w hSw; (try dsimp only at hSw); go_simp; (try simp only [run_eql_slice_nil _ 27 _ _ _ _ Try.underlying27, Result.andThen_ok]); (try with_reducible rfl))); (case ha54 => (simp only [Act.put, List.setIfInBounds_toArray, List.set_cons_zero, List.set_cons_succ, Option.isNone_none, Option.isNone_some, Bool.not_true, Bool.not_false]; (try with_reducible rfl))); (case hl54 => (simp only [Act.put, List.setIfInBounds_toArray, List.set_cons_zero, List.set_cons_succ, Option.isNone_none, Option.isNone_some, Bool.not_true, Bool.not_false]; (try with_reducible rfl))))); (first | (refine held_skip (i := 17) (a' := ?hA55) (l' := ?hL55) rfl (by kernel_rfl) (by kernel_rfl) (by kernel_rfl) (fun _ _ _ h => h) (by rfl) (by assumption) ?ha55 ?hl55 ?hh55; (case ha55 => (simp only [Act.put, List.setIfInBounds_toArray, List.set_cons_zero, List.set_cons_succ, Option.isNone_none, Option.isNone_some, Bool.not_true, Bool.not_false]; (try with_reducible rfl))); (case hl55 => (simp only [Act.put, List.setIfInBounds_toArray, List.set_cons_zero, List.set_cons_succ, Option.isNone_none, Option.isNone_some, Bool.not_true, Bool.not_false]; (try with_reducible rfl)))) | (refine held_take (i := 17) (v := ?hV55) (a' := ?hA55) (l' := ?hL55) rfl (by kernel_rfl) (by kernel_rfl) (by kernel_rfl) (fun _ _ _ h => h) (by rfl) ?hv55 (by assumption) ?ha55 ?hl55 ?hh55; (case hv55 => (intro w hSw; (try dsimp only at hSw); go_simp; (try simp only [run_eql_slice_nil _ 27 _ _ _ _ Try.underlying27, Result.andThen_ok]); (try with_reducible rfl))); (case ha55 => (simp only [Act.put, List.setIfInBounds_toArray, List.set_cons_zero, List.set_cons_succ, Option.isNone_none, Option.isNone_some, Bool.not_true, Bool.not_false]; (try with_reducible rfl))); (case hl55 => (simp only [Act.put, List.setIfInBounds_toArray, List.set_cons_zero, List.set_cons_succ, Option.isNone_none, Option.isNone_some, Bool.not_true, Bool.not_false]; (try with_reducible rfl))))); (first | (refine held_skip (i := 18) (a' := ?hA56) (l' := ?hL56) rfl (by kernel_rfl) (by kernel_rfl) (by kernel_rfl) (fun _ _ _ h => h) (by rfl) (by assumption) ?ha56 ?hl56 ?hh56; (case ha56 => (simp only [Act.put, List.setIfInBounds_toArray, List.set_cons_zero, List.set_cons_succ, Option.isNone_none, Option.isNone_some, Bool.not_true, Bool.not_false]; (try with_reducible rfl))); (case hl56 => (simp only [Act.put, List.setIfInBounds_toArray, List.set_cons_zero, List.set_cons_succ, Option.isNone_none, Option.isNone_some, Bool.not_true, Bool.not_false]; (try with_reducible rfl)))) | (refine held_take (i := 18) (v := ?hV56) (a' := ?hA56) (l' := ?hL56) rfl (by kernel_rfl) (by kernel_rfl) (by kernel_rfl) (fun _ _ _ h => h) (by rfl) ?hv56 (by assumption) ?ha56 ?hl56 ?hh56; (case hv56 => (intro w hSw; (try dsimp only at hSw); go_simp; (try simp only [run_eql_slice_nil _ 27 _ _ _ _ Try.underlying27, Result.andThen_ok]); (try with_reducible rfl))); (case ha56 => (simp only [Act.put, List.setIfInBounds_toArray, List.set_cons_zero, List.set_cons_succ, Option.isNone_none, Option.isNone_some, Bool.not_true, Bool.not_false]; (try with_reducible rfl))); (case hl56 => (simp only [Act.put, List.setIfInBounds_toArray, List.set_cons_zero, List.set_cons_succ, Option.isNone_none, Option.isNone_some, Bool.not_true, Bool.not_false]; (try with_reducible rfl))))); (first | (refine held_skip (i := 19) (a' := ?hA57) (l' := ?hL57) rfl (by kernel_rfl) (by kernel_rfl) (by kernel_rfl) (fun _ _ _ h => h) (by rfl) (by assumption) ?ha57 ?hl57 ?hh57; (case ha57 => (simp only [Act.put, List.setIfInBounds_toArray, List.set_cons_zero, List.set_cons_succ, Option.isNone_none, Option.isNone_some, Bool.not_true, Bool.not_false]; (try with_reducible rfl))); (case hl57 => (simp only [Act.put, List.setIfInBounds_toArray, List.set_cons_zero, List.set_cons_succ, Option.isNone_none, Option.isNone_some, Bool.not_true, Bool.not_false]; (try with_reducible rfl)))) | (refine held_take (i := 19) (v := ?hV57) (a' := ?hA57) (l' := ?hL57) rfl (by kernel_rfl) (by kernel_rfl) (by kernel_rfl) (fun _ _ _ h => h) (by rfl) ?hv57 (by assumption) ?ha57 ?hl57 ?hh57; (case hv57 => (intro w hSw; (try dsimp only at hSw); go_simp; (try simp only [run_eql_slice_nil _ 27 _ _ _ _ Try.underlying27, Result.andThen_ok]); (try with_reducible rfl))); (case ha57 => (simp only [Act.put, List.setIfInBounds_toArray, List.set_cons_zero, List.set_cons_succ, Option.isNone_none, Option.isNone_some, Bool.not_true, Bool.not_false]; (try with_reducible rfl))); (case hl57 => (simp only [Act.put, List.setIfInBounds_toArray, List.set_cons_zero, List.set_cons_succ, Option.isNone_none, Option.isNone_some, Bool.not_true, Bool.not_false]; (try with_reducible rfl))))); (first | (refine held_skip (i := 20) (a' := ?hA58) (l' := ?hL58) rfl (by kernel_rfl) (by kernel_rfl) (by kernel_rfl) (fun _ _ _ h => h) (by rfl) (by assumption) ?ha58 ?hl58 ?hh58; (case ha58 => (simp only [Act.put, List.setIfInBounds_toArray, List.set_cons_zero, List.set_cons_succ, Option.isNone_none, Option.isNone_some, Bool.not_true, Bool.not_false]; (try with_reducible rfl))); (case hl58 => (simp only [Act.put, List.setIfInBounds_toArray, List.set_cons_zero, List.set_cons_succ, Option.isNone_none, Option.isNone_some, Bool.not_true, Bool.not_false]; (try with_reducible rfl)))) | (refine held_take (i := 20) (v := ?hV58) (a' := ?hA58) (l' := ?hL58) rfl (by kernel_rfl) (by kernel_rfl) (by kernel_rfl) (fun _ _ _ h => h) (by rfl) ?hv58 (by assumption) ?ha58 ?hl58 ?hh58; (case hv58 => (intro w hSw; (try dsimp only at hSw); go_simp; (try simp only [run_eql_slice_nil _ 27 _ _ _ _ Try.underlying27, Result.andThen_ok]); (try with_reducible rfl))); (case ha58 => (simp only [Act.put, List.setIfInBounds_toArray, List.set_cons_zero, List.set_cons_succ, Option.isNone_none, Option.isNone_some, Bool.not_true, Bool.not_false]; (try with_reducible rfl))); (case hl58 => (simp only [Act.put, List.setIfInBounds_toArray, List.set_cons_zero, List.set_cons_succ, Option.isNone_none, Option.isNone_some, Bool.not_true, Bool.not_false]; (try with_reducible rfl))))); (first | (refine held_skip (i := 21) (a' := ?hA59) (l' := ?hL59) rfl (by kernel_rfl) (by kernel_rfl) (by kernel_rfl) (fun _ _ _ h => h) (by rfl) (by assumption) ?ha59 ?hl59 ?hh59; (case ha59 => (simp only [Act.put, List.setIfInBounds_toArray, List.set_cons_zero, List.set_cons_succ, Option.isNone_none, Option.isNone_some, Bool.not_true, Bool.not_false]; (try with_reducible rfl))); (case hl59 => (simp only [Act.put, List.setIfInBounds_toArray, List.set_cons_zero, List.set_cons_succ, Option.isNone_none, Option.isNone_some, Bool.not_true, Bool.not_false]; (try with_reducible rfl)))) | (refine held_take (i := 21) (v := ?hV59) (a' := ?hA59) (l' := ?hL59) rfl (by kernel_rfl) (by kernel_rfl) (by kernel_rfl) (fun _ _ _ h => h) (by rfl) ?hv59 (by assumption) ?ha59 ?hl59 ?hh59; (case hv59 => (intro w hSw; (try dsimp only at hSw); go_simp; (try simp only [run_eql_slice_nil _ 27 _ _ _ _ Try.underlying27, Result.andThen_ok]); (try with_reducible rfl))); (case ha59 => (simp only [Act.put, List.setIfInBounds_toArray, List.set_cons_zero, List.set_cons_succ, Option.isNone_none, Option.isNone_some, Bool.not_true, Bool.not_false]; (try with_reducible rfl))); (case hl59 => (simp only [Act.put, List.setIfInBounds_toArray, List.set_cons_zero, List.set_cons_succ, Option.isNone_none, Option.isNone_some, Bool.not_true, Bool.not_false]; (try with_reducible rfl))))); (first | (refine held_skip (i := 22) (a' := ?hA60) (l' := ?hL60) rfl (by kernel_rfl) (by kernel_rfl) (by kernel_rfl) (fun _ _ _ h => h) (by rfl) (by assumption) ?ha60 ?hl60 ?hh60; (case ha60 => (simp only [Act.put, List.setIfInBounds_toArray, List.set_cons_zero, List.set_cons_succ, Option.isNone_none, Option.isNone_some, Bool.not_true, Bool.not_false]; (try with_reducible rfl))); (case hl60 => (simp only [Act.put, List.setIfInBounds_toArray, List.set_cons_zero, List.set_cons_succ, Option.isNone_none, Option.isNone_some, Bool.not_true, Bool.not_false]; (try with_reducible rfl)))) | (refine held_take (i := 22) (v := ?hV60) (a' := ?hA60) (l' := ?hL60) rfl (by kernel_rfl) (by kernel_rfl) (by kernel_rfl) (fun _ _ _ h => h) (by rfl) ?hv60 (by assumption) ?ha60 ?hl60 ?hh60; (case hv60 => (intro w hSw; (try dsimp only at hSw); go_simp; (try simp only [run_eql_slice_nil _ 27 _ _ _ _ Try.underlying27, Result.andThen_ok]); (try with_reducible rfl))); (case ha60 => (simp only [Act.put, List.setIfInBounds_toArray, List.set_cons_zero, List.set_cons_succ, Option.isNone_none, Option.isNone_some, Bool.not_true, Bool.not_false]; (try with_reducible rfl))); (case hl60 => (simp only [Act.put, List.setIfInBounds_toArray, List.set_cons_zero, List.set_cons_succ, Option.isNone_none, Option.isNone_some, Bool.not_true, Bool.not_false]; (try with_reducible rfl))))); (first | (refine held_skip (i := 23) (a' := ?hA61) (l' := ?hL61) rfl (by kernel_rfl) (by kernel_rfl) (by kernel_rfl) (fun _ _ _ h => h) (by rfl) (by assumption) ?ha61 ?hl61 ?hh61; (case ha61 => (simp only [Act.put, List.setIfInBounds_toArray, List.set_cons_zero, List.set_cons_succ, Option.isNone_none, Option.isNone_some, Bool.not_true, Bool.not_false]; (try with_reducible rfl))); (case hl61 => (simp only [Act.put, List.setIfInBounds_toArray, List.set_cons_zero, List.set_cons_succ, Option.isNone_none, Option.isNone_some, Bool.not_true, Bool.not_false]; (try with_reducible rfl)))) | (refine held_take (i := 23) (v := ?hV61) (a' := ?hA61) (l' := ?hL61) rfl (by kernel_rfl) (by kernel_rfl) (by kernel_rfl) (fun _ _ _ h => h) (by rfl) ?hv61 (by assumption) ?ha61 ?hl61 ?hh61; (case hv61 => (intro w hSw; (try dsimp only at hSw); go_simp; (try simp only [run_eql_slice_nil _ 27 _ _ _ _ Try.underlying27, Result.andThen_ok]); (try with_reducible rfl))); (case ha61 => (simp only [Act.put, List.setIfInBounds_toArray, List.set_cons_zero, List.set_cons_succ, Option.isNone_none, Option.isNone_some, Bool.not_true, Bool.not_false]; (try with_reducible rfl))); (case hl61 => (simp only [Act.put, List.setIfInBounds_toArray, List.set_cons_zero, List.set_cons_succ, Option.isNone_none, Option.isNone_some, Bool.not_true, Bool.not_false]; (try with_reducible rfl))))); (first | (refine held_skip (i := 24) (a' := ?hA62) (l' := ?hL62) rfl (by kernel_rfl) (by kernel_rfl) (by kernel_rfl) (fun _ _ _ h => h) (by rfl) (by assumption) ?ha62 ?hl62 ?hh62; (case ha62 => (simp only [Act.put, List.setIfInBounds_toArray, List.set_cons_zero, List.set_cons_succ, Option.isNone_none, Option.isNone_some, Bool.not_true, Bool.not_false]; (try with_reducible rfl))); (case hl62 => (simp only [Act.put, List.setIfInBounds_toArray, List.set_cons_zero, List.set_cons_succ, Option.isNone_none, Option.isNone_some, Bool.not_true, Bool.not_false]; (try with_reducible rfl)))) | (refine held_take (i := 24) (v := ?hV62) (a' := ?hA62) (l' := ?hL62) rfl (by kernel_rfl) (by kernel_rfl) (by kernel_rfl) (fun _ _ _ h => h) (by rfl) ?hv62 (by assumption) ?ha62 ?hl62 ?hh62; (case hv62 => (intro w hSw; (try dsimp only at hSw); go_simp; (try simp only [run_eql_slice_nil _ 27 _ _ _ _ Try.underlying27, Result.andThen_ok]); (try with_reducible rfl))); (case ha62 => (simp only [Act.put, List.setIfInBounds_toArray, List.set_cons_zero, List.set_cons_succ, Option.isNone_none, Option.isNone_some, Bool.not_true, Bool.not_false]; (try with_reducible rfl))); (case hl62 => (simp only [Act.put, List.setIfInBounds_toArray, List.set_cons_zero, List.set_cons_succ, Option.isNone_none, Option.isNone_some, Bool.not_true, Bool.not_false]; (try with_reducible rfl))))); (first | (refine held_skip (i := 25) (a' := ?hA63) (l' := ?hL63) rfl (by kernel_rfl) (by kernel_rfl) (by kernel_rfl) (fun _ _ _ h => h) (by rfl) (by assumption) ?ha63 ?hl63 ?hh63; (case ha63 => (simp only [Act.put, List.setIfInBounds_toArray, List.set_cons_zero, List.set_cons_succ, Option.isNone_none, Option.isNone_some, Bool.not_true, Bool.not_false]; (try with_reducible rfl))); (case hl63 => (simp only [Act.put, List.setIfInBounds_toArray, List.set_cons_zero, List.set_cons_succ, Option.isNone_none, Option.isNone_some, Bool.not_true, Bool.not_false]; (try with_reducible rfl)))) | (refine held_take (i := 25) (v := ?hV63) (a' := ?hA63) (l' := ?hL63) rfl (by kernel_rfl) (by kernel_rfl) (by kernel_rfl) (fun _ _ _ h => h) (by rfl) ?hv63 (by assumption) ?ha63 ?hl63 ?hh63; (case hv63 => (intro w hSw; (try dsimp only at hSw); go_simp; (try simp only [run_eql_slice_nil _ 27 _ _ _ _ Try.underlying27, Result.andThen_ok]); (try with_reducible rfl))); (case ha63 => (simp only [Act.put, List.setIfInBounds_toArray, List.set_cons_zero, List.set_cons_succ, Option.isNone_none, Option.isNone_some, Bool.not_true, Bool.not_false]; (try with_reducible rfl))); (case hl63 => (simp only [Act.put, List.setIfInBounds_toArray, List.set_cons_zero, List.set_cons_succ, Option.isNone_none, Option.isNone_some, Bool.not_true, Bool.not_false]; (try with_reducible rfl))))); (first | (refine held_skip (i := 26) (a' := ?hA64) (l' := ?hL64) rfl (by kernel_rfl) (by kernel_rfl) (by kernel_rfl) (fun _ _ _ h => h) (by rfl) (by assumption) ?ha64 ?hl64 ?hh64; (case ha64 => (simp only [Act.put, List.setIfInBounds_toArray, List.set_cons_zero, List.set_cons_succ, Option.isNone_none, Option.isNone_some, Bool.not_true, Bool.not_false]; (try with_reducible rfl))); (case hl64 => (simp only [Act.put, List.setIfInBounds_toArray, List.set_cons_zero, List.set_cons_succ, Option.isNone_none, Option.isNone_some, Bool.not_true, Bool.not_false]; (try with_reducible rfl)))) | (refine held_take (i := 26) (v := ?hV64) (a' := ?hA64) (l' := ?hL64) rfl (by kernel_rfl) (by kernel_rfl) (by kernel_rfl) (fun _ _ _ h => h) (by rfl) ?hv64 (by assumption) ?ha64 ?hl64 ?hh64; (case hv64 => (intro w hSw; (try dsimp only at hSw); go_simp; (try simp only [run_eql_slice_nil _ 27 _ _ _ _ Try.underlying27, Result.andThen_ok]); (try with_reducible rfl))); (case ha64 => (simp only [Act.put, List.setIfInBounds_toArray, List.set_cons_zero, List.set_cons_succ, Option.isNone_none, Option.isNone_some, Bool.not_true, Bool.not_false]; (try with_reducible rfl))); (case hl64 => (simp only [Act.put, List.setIfInBounds_toArray, List.set_cons_zero, List.set_cons_succ, Option.isNone_none, Option.isNone_some, Bool.not_true, Bool.not_false]; (try with_reducible rfl))))); (first | (refine held_skip (i := 27) (a' := ?hA65) (l' := ?hL65) rfl (by kernel_rfl) (by kernel_rfl) (by kernel_rfl) (fun _ _ _ h => h) (by rfl) (by assumption) ?ha65 ?hl65 ?hh65; (case ha65 => (simp only [Act.put, List.setIfInBounds_toArray, List.set_cons_zero, List.set_cons_succ, Option.isNone_none, Option.isNone_some, Bool.not_true, Bool.not_false]; (try with_reducible rfl))); (case hl65 => (simp only [Act.put, List.setIfInBounds_toArray, List.set_cons_zero, List.set_cons_succ, Option.isNone_none, Option.isNone_some, Bool.not_true, Bool.not_false]; (try with_reducible rfl)))) | (refine held_take (i := 27) (v := ?hV65) (a' := ?hA65) (l' := ?hL65) rfl (by kernel_rfl) (by kernel_rfl) (by kernel_rfl) (fun _ _ _ h => h) (by rfl) ?hv65 (by assumption) ?ha65 ?hl65 ?hh65; (case hv65 => (intro w hSw; (try dsimp only at hSw); go_simp; (try simp only [run_eql_slice_nil _ 27 _ _ _ _ Try.underlying27, Result.andThen_ok]); (try with_reducible rfl))); (case ha65 => (simp only [Act.put, List.setIfInBounds_toArray, List.set_cons_zero, List.set_cons_succ, Option.isNone_none, Option.isNone_some, Bool.not_true, Bool.not_false]; (try with_reducible rfl))); (case hl65 => (simp only [Act.put, List.setIfInBounds_toArray, List.set_cons_zero, List.set_cons_succ, Option.isNone_none, Option.isNone_some, Bool.not_true, Bool.not_false]; (try with_reducible rfl))))); (first | (refine held_skip (i := 28) (a' := ?hA66) (l' := ?hL66) rfl (by kernel_rfl) (by kernel_rfl) (by kernel_rfl) (fun _ _ _ h => h) (by rfl) (by assumption) ?ha66 ?hl66 ?hh66; (case ha66 => (simp only [Act.put, List.setIfInBounds_toArray, List.set_cons_zero, List.set_cons_succ, Option.isNone_none, Option.isNone_some, Bool.not_true, Bool.not_false]; (try with_reducible rfl))); (case hl66 => (simp only [Act.put, List.setIfInBounds_toArray, List.set_cons_zero, List.set_cons_succ, Option.isNone_none, Option.isNone_some, Bool.not_true, Bool.not_false]; (try with_reducible rfl)))) | (refine held_take (i := 28) (v := ?hV66) (a' := ?hA66) (l' := ?hL66) rfl (by kernel_rfl) (by kernel_rfl) (by kernel_rfl) (fun _ _ _ h => h) (by rfl) ?hv66 (by assumption) ?ha66 ?hl66 ?hh66; (case hv66 => (intro w hSw; (try dsimp only at hSw); go_simp; (try simp only [run_eql_slice_nil _ 27 _ _ _ _ Try.underlying27, Result.andThen_ok]); (try with_reducible rfl))); (case ha66 => (simp only [Act.put, List.setIfInBounds_toArray, List.set_cons_zero, List.set_cons_succ, Option.isNone_none, Option.isNone_some, Bool.not_true, Bool.not_false]; (try with_reducible rfl))); (case hl66 => (simp only [Act.put, List.setIfInBounds_toArray, List.set_cons_zero, List.set_cons_succ, Option.isNone_none, Option.isNone_some, Bool.not_true, Bool.not_false]; (try with_reducible rfl))))); (first | (refine held_skip (i := 29) (a' := ?hA67) (l' := ?hL67) rfl (by kernel_rfl) (by kernel_rfl) (by kernel_rfl) (fun _ _ _ h => h) (by rfl) (by assumption) ?ha67 ?hl67 ?hh67; (case ha67 => (simp only [Act.put, List.setIfInBounds_toArray, List.set_cons_zero, List.set_cons_succ, Option.isNone_none, Option.isNone_some, Bool.not_true, Bool.not_false]; (try with_reducible rfl))); (case hl67 => (simp only [Act.put, List.setIfInBounds_toArray, List.set_cons_zero, List.set_cons_succ, Option.isNone_none, Option.isNone_some, Bool.not_true, Bool.not_false]; (try with_reducible rfl)))) | (refine held_take (i := 29) (v := ?hV67) (a' := ?hA67) (l' := ?hL67) rfl (by kernel_rfl) (by kernel_rfl) (by kernel_rfl) (fun _ _ _ h => h) (by rfl) ?hv67 (by assumption) ?ha67 ?hl67 ?hh67; (case hv67 => (intro w hSw; (try dsimp only at hSw); go_simp; (try simp only [run_eql_slice_nil _ 27 _ _ _ _ Try.underlying27, Result.andThen_ok]); (try with_reducible rfl))); (case ha67 => (simp only [Act.put, List.setIfInBounds_toArray, List.set_cons_zero, List.set_cons_succ, Option.isNone_none, Option.isNone_some, Bool.not_true, Bool.not_false]; (try with_reducible rfl))); (case hl67 => (simp only [Act.put, List.setIfInBounds_toArray, List.set_cons_zero, List.set_cons_succ, Option.isNone_none, Option.isNone_some, Bool.not_true, Bool.not_false]; (try with_reducible rfl))))); (first | (refine held_skip (i := 30) (a' := ?hA68) (l' := ?hL68) rfl (by kernel_rfl) (by kernel_rfl) (by kernel_rfl) (fun _ _ _ h => h) (by rfl) (by assumption) ?ha68 ?hl68 ?hh68; (case ha68 => (simp only [Act.put, List.setIfInBounds_toArray, List.set_cons_zero, List.set_cons_succ, Option.isNone_none, Option.isNone_some, Bool.not_true, Bool.not_false]; (try with_reducible rfl))); (case hl68 => (simp only [Act.put, List.setIfInBounds_toArray, List.set_cons_zero, List.set_cons_succ, Option.isNone_none, Option.isNone_some, Bool.not_true, Bool.not_false]; (try with_reducible rfl)))) | (refine held_take (i := 30) (v := ?hV68) (a' := ?hA68) (l' := ?hL68) rfl (by kernel_rfl) (by kernel_rfl) (by kernel_rfl) (fun _ _ _ h => h) (by rfl) ?hv68 (by assumption) ?ha68 ?hl68 ?hh68; (case hv68 => (intro w hSw; (try dsimp only at hSw); go_simp; (try simp only [run_eql_slice_nil _ 27 _ _ _ _ Try.underlying27, Result.andThen_ok]); (try with_reducible rfl))); (case ha68 => (simp only [Act.put, List.setIfInBounds_toArray, List.set_cons_zero, List.set_cons_succ, Option.isNone_none, Option.isNone_some, Bool.not_true, Bool.not_false]; (try with_reducible rfl))); (case hl68 => (simp only [Act.put, List.setIfInBounds_toArray, List.set_cons_zero, List.set_cons_succ, Option.isNone_none, Option.isNone_some, Bool.not_true, Bool.not_false]; (try with_reducible rfl))))); (first | (refine held_skip (i := 31) (a' := ?hA69) (l' := ?hL69) rfl (by kernel_rfl) (by kernel_rfl) (by kernel_rfl) (fun _ _ _ h => h) (by rfl) (by assumption) ?ha69 ?hl69 ?hh69; (case ha69 => (simp only [Act.put, List.setIfInBounds_toArray, List.set_cons_zero, List.set_cons_succ, Option.isNone_none, Option.isNone_some, Bool.not_true, Bool.not_false]; (try with_reducible rfl))); (case hl69 => (simp only [Act.put, List.setIfInBounds_toArray, List.set_cons_zero, List.set_cons_succ, Option.isNone_none, Option.isNone_some, Bool.not_true, Bool.not_false]; (try with_reducible rfl)))) | (refine held_take (i := 31) (v := ?hV69) (a' := ?hA69) (l' := ?hL69) rfl (by kernel_rfl) (by kernel_rfl) (by kernel_rfl) (fun _ _ _ h => h) (by rfl) ?hv69 (by assumption) ?ha69 ?hl69 ?hh69; (case hv69 => (intro w hSw; (try dsimp only at hSw); go_simp; (try simp only [run_eql_slice_nil _ 27 _ _ _ _ Try.underlying27, Result.andThen_ok]); (try with_reducible rfl))); (case ha69 => (simp only [Act.put, List.setIfInBounds_toArray, List.set_cons_zero, List.set_cons_succ, Option.isNone_none, Option.isNone_some, Bool.not_true, Bool.not_false]; (try with_reducible rfl))); (case hl69 => (simp only [Act.put, List.setIfInBounds_toArray, List.set_cons_zero, List.set_cons_succ, Option.isNone_none, Option.isNone_some, Bool.not_true, Bool.not_false]; (try with_reducible rfl))))); (first | (refine held_skip (i := 32) (a' := ?hA70) (l' := ?hL70) rfl (by kernel_rfl) (by kernel_rfl) (by kernel_rfl) (fun _ _ _ h => h) (by rfl) (by assumption) ?ha70 ?hl70 ?hh70; (case ha70 => (simp only [Act.put, List.setIfInBounds_toArray, List.set_cons_zero, List.set_cons_succ, Option.isNone_none, Option.isNone_some, Bool.not_true, Bool.not_false]; (try with_reducible rfl))); (case hl70 => (simp only [Act.put, List.setIfInBounds_toArray, List.set_cons_zero, List.set_cons_succ, Option.isNone_none, Option.isNone_some, Bool.not_true, Bool.not_false]; (try with_reducible rfl)))) | (refine held_take (i := 32) (v := ?hV70) (a' := ?hA70) (l' := ?hL70) rfl (by kernel_rfl) (by kernel_rfl) (by kernel_rfl) (fun _ _ _ h => h) (by rfl) ?hv70 (by assumption) ?ha70 ?hl70 ?hh70; (case hv70 => (intro w hSw; (try dsimp only at hSw); go_simp; (try simp only [run_eql_slice_nil _ 27 _ _ _ _ Try.underlying27, Result.andThen_ok]); (try with_reducible rfl))); (case ha70 => (simp only [Act.put, List.setIfInBounds_toArray, List.set_cons_zero, List.set_cons_succ, Option.isNone_none, Option.isNone_some, Bool.not_true, Bool.not_false]; (try with_reducible rfl))); (case hl70 => (simp only [Act.put, List.setIfInBounds_toArray, List.set_cons_zero, List.set_cons_succ, Option.isNone_none, Option.isNone_some, Bool.not_true, Bool.not_false]; (try with_reducible rfl))))))
              refine held_one (i := 33) rfl (by kernel_rfl) (fun K hK => ?_)
              go_simp
              go_at_call 26
              (with_reducible refine (CE2.out).mono ?_)
              rintro e w6 ⟨rfl, hf6⟩
              (refine held_back hK (a' := ?hA109) (l' := ?hL109) ?ha109 ?hl109 (⟨hSC.out _ hf6, hSD.out _ hf6⟩) (fun hHeld => ?hh109); (case ha109 => first | with_reducible rfl | (simp only [Act.put, List.setIfInBounds_toArray, List.set_cons_zero, List.set_cons_succ, Option.isNone_none, Option.isNone_some, Bool.not_true, Bool.not_false]; (try with_reducible rfl))); (case hl109 => (simp only [Act.put, List.setIfInBounds_toArray, List.set_cons_zero, List.set_cons_succ, Option.isNone_none, Option.isNone_some, Bool.not_true, Bool.not_false]; (try with_reducible rfl))); clear hK K)
              ((first | (refine held_skip (i := 34) (a' := ?hA71) (l' := ?hL71) rfl (by kernel_rfl) (by kernel_rfl) (by kernel_rfl) (fun _ _ _ h => h) (by rfl) (by assumption) ?ha71 ?hl71 ?hh71; (case ha71 => (simp only [Act.put, List.setIfInBounds_toArray, List.set_cons_zero, List.set_cons_succ, Option.isNone_none, Option.isNone_some, Bool.not_true, Bool.not_false]; (try with_reducible rfl))); (case hl71 => (simp only [Act.put, List.setIfInBounds_toArray, List.set_cons_zero, List.set_cons_succ, Option.isNone_none, Option.isNone_some, Bool.not_true, Bool.not_false]; (try with_reducible rfl)))) | (refine held_take (i := 34) (v := ?hV71) (a' := ?hA71) (l' := ?hL71) rfl (by kernel_rfl) (by kernel_rfl) (by kernel_rfl) (fun _ _ _ h => h) (by rfl) ?hv71 (by assumption) ?ha71 ?hl71 ?hh71; (case hv71 => (intro w hSw; (try dsimp only at hSw); go_simp; (try simp only [run_eql_slice_nil _ 27 _ _ _ _ Try.underlying27, Result.andThen_ok]); (try with_reducible rfl))); (case ha71 => (simp only [Act.put, List.setIfInBounds_toArray, List.set_cons_zero, List.set_cons_succ, Option.isNone_none, Option.isNone_some, Bool.not_true, Bool.not_false]; (try with_reducible rfl))); (case hl71 => (simp only [Act.put, List.setIfInBounds_toArray, List.set_cons_zero, List.set_cons_succ, Option.isNone_none, Option.isNone_some, Bool.not_true, Bool.not_false]; (try with_reducible rfl))))); (first | (refine held_skip (i := 35) (a' := ?hA72) (l' := ?hL72) rfl (by kernel_rfl) (by kernel_rfl) (by kernel_rfl) (fun _ _ _ h => h) (by rfl) (by assumption) ?ha72 ?hl72 ?hh72; (case ha72 => (simp only [Act.put, List.setIfInBounds_toArray, List.set_cons_zero, List.set_cons_succ, Option.isNone_none, Option.isNone_some, Bool.not_true, Bool.not_false]; (try with_reducible rfl))); (case hl72 => (simp only [Act.put, List.setIfInBounds_toArray, List.set_cons_zero, List.set_cons_succ, Option.isNone_none, Option.isNone_some, Bool.not_true, Bool.not_false]; (try with_reducible rfl)))) | (refine held_take (i := 35) (v := ?hV72) (a' := ?hA72) (l' := ?hL72) rfl (by kernel_rfl) (by kernel_rfl) (by kernel_rfl) (fun _ _ _ h => h) (by rfl) ?hv72 (by assumption) ?ha72 ?hl72 ?hh72; (case hv72 => (intro w hSw; (try dsimp only at hSw); go_simp; (try simp only [run_eql_slice_nil _ 27 _ _ _ _ Try.underlying27, Result.andThen_ok]); (try with_reducible rfl))); (case ha72 => (simp only [Act.put, List.setIfInBounds_toArray, List.set_cons_zero, List.set_cons_succ, Option.isNone_none, Option.isNone_some, Bool.not_true, Bool.not_false]; (try with_reducible rfl))); (case hl72 => (simp only [Act.put, List.setIfInBounds_toArray, List.set_cons_zero, List.set_cons_succ, Option.isNone_none, Option.isNone_some, Bool.not_true, Bool.not_false]; (try with_reducible rfl))))); (first | (refine held_skip (i := 36) (a' := ?hA73) (l' := ?hL73) rfl (by kernel_rfl) (by kernel_rfl) (by kernel_rfl) (fun _ _ _ h => h) (by rfl) (by assumption) ?ha73 ?hl73 ?hh73; (case ha73 => (simp only [Act.put, List.setIfInBounds_toArray, List.set_cons_zero, List.set_cons_succ, Option.isNone_none, Option.isNone_some, Bool.not_true, Bool.not_false]; (try with_reducible rfl))); (case hl73 => (simp only [Act.put, List.setIfInBounds_toArray, List.set_cons_zero, List.set_cons_succ, Option.isNone_none, Option.isNone_some, Bool.not_true, Bool.not_false]; (try with_reducible rfl)))) | (refine held_take (i := 36) (v := ?hV73) (a' := ?hA73) (l' := ?hL73) rfl (by kernel_rfl) (by kernel_rfl) (by kernel_rfl) (fun _ _ _ h => h) (by rfl) ?hv73 (by assumption) ?ha73 ?hl73 ?hh73; (case hv73 => (intro w hSw; (try dsimp only at hSw); go_simp; (try simp only [run_eql_slice_nil _ 27 _ _ _ _ Try.underlying27, Result.andThen_ok]); (try with_reducible rfl))); (case ha73 => (simp only [Act.put, List.setIfInBounds_toArray, List.set_cons_zero, List.set_cons_succ, Option.isNone_none, Option.isNone_some, Bool.not_true, Bool.not_false]; (try with_reducible rfl))); (case hl73 => (simp only [Act.put, List.setIfInBounds_toArray, List.set_cons_zero, List.set_cons_succ, Option.isNone_none, Option.isNone_some, Bool.not_true, Bool.not_false]; (try with_reducible rfl))))))
              refine wpAnyH_done (by kernel_rfl) ?_ _
              go_wp2_with fail
              go_roundw
              case rel => exact ⟨k + 1, by omega, by go_num, by rw [HA'.out], HF.out.trans hf6⟩
              case measure => simp [intOf]; omega
        | some l1 =>
          obtain ⟨ad1, d1, hca, hd1, hs1⟩ := hka.some hxa
          obtain rfl : l1 = l := by have := HTA.out k l1 hxa; rw [HLX.out] at this; injection this with this; exact this.symm
          have hisk : KA.isK k = true := isK_iff.2 ⟨_, hxa⟩
          have HA' : Hid (allK KA (k + 1) = wh) := by rw [Hid, HSU.out, hisk, Bool.and_true]
          obtain ⟨l2, hxb2⟩ := isK_iff.1 (HTM.out k hisk)
          obtain ⟨ad2, d2, hcb, hd2, hs2⟩ := hkb.some hxb2
          obtain rfl : l2 = l1 := by have := HTB.out k l2 hxb2; rw [HLX.out] at this; injection this with this; exact this.symm
          have hSD : Hid (∀ w', Fr wr w' → w'.cell? ⟨g5, k, none⟩ = some (.slice (some ad2) K d2)) := fun w' hf => (hf.cell (p := ⟨g5, k, none⟩) (World.block_lt_of_cell? wr _ hcb)).trans hcb
          have CE1 := Lib.hid (CE.out wr.drew (some ad1) K d1 (Below.refl _ _).drew hKm (hs1.more sByte fun y hy => Nat.lt_of_lt_of_le hy.1 (Nat.le_trans hg4.out HF.out.size)))
          have CE2 := Lib.hid (fun W hf => CE.out W (some ad2) K d2 hf hKm (hs2.more sByte fun y hy => Nat.lt_of_lt_of_le hy.1 HF.out.size))
          clear hka hkb hxa hxb hcl hcb hs1 hs2 hisk hxb2
          go_upto_region 13 with fail
          go_cut [15] (fun s15 wx => s15 = .bool wh ∧ wr = wx)
          case first =>
            cases wh
            all_goals
              go_wp2_with (first | (refine wpList_nnil rfl (.tmp 77) 27 _ 5 rfl Try.underlying27 rfl true rfl ?_) | fail)
              go_meet
              exact ⟨rfl, rfl⟩
          case rest =>
            obtain ⟨rfl, rfl⟩ := hcut
            go_wp2_with fail
            refine held_begin (n := 37) (bs := #[false, false, false, false, false, false, false, false, false, false, false, false, false, false, false, false, false, false, false, false, false, false, false, false, false, false, false, false, false, false, false, false, false, false, false, false, false]) rfl rfl (by kernel_rfl) (S := fun w' => w'.cell? (adx.add k) = some (.slice A' n' c') ∧ w'.cell? ⟨g5, k, none⟩ = some (.slice (some ad2) K d2)) ⟨hSC.out _ (Below.refl _ _).drew, hSD.out _ (Below.refl _ _).drew⟩ (fun hHeld => ?_)
            ((first | (refine held_skip (i := 0) (a' := ?hA74) (l' := ?hL74) rfl (by kernel_rfl) (by kernel_rfl) (by kernel_rfl) (fun _ _ _ h => h) (by rfl) (by assumption) ?ha74 ?hl74 ?hh74; (case ha74 => (simp only [Act.put, List.setIfInBounds_toArray, List.set_cons_zero, List.set_cons_succ, Option.isNone_none, Option.isNone_some, Bool.not_true, Bool.not_false]; (try with_reducible rfl))); (case hl74 => (simp only [Act.put, List.setIfInBounds_toArray, List.set_cons_zero, List.set_cons_succ, Option.isNone_none, Option.isNone_some, Bool.not_true, Bool.not_false]; (try with_reducible rfl)))) | (refine held_take (i := 0) (v := ?hV74) (a' := ?hA74) (l' := ?hL74) rfl (by kernel_rfl) (by kernel_rfl) (by kernel_rfl) (fun _ _ _ h => h) (by rfl) ?hv74 (by assumption) ?ha74 ?hl74 ?hh74; (case hv74 => (intro w hSw; (try dsimp only at hSw); go_simp; (try simp only [run_eql_slice_nil _ 27 _ _ _ _ Try.underlying27, Result.andThen_ok]); (try with_reducible rfl))); (case ha74 => (simp only [Act.put, List.setIfInBounds_toArray, List.set_cons_zero, List.set_cons_succ, Option.isNone_none, Option.isNone_some, Bool.not_true, Bool.not_false]; (try with_reducible rfl))); (case hl74 => (simp only [Act.put, List.setIfInBounds_toArray, List.set_cons_zero, List.set_cons_succ, Option.isNone_none, Option.isNone_some, Bool.not_true, Bool.not_false]; (try with_reducible rfl))))); (first | (refine held_skip (i := 1) (a' := ?hA75) (l' := ?hL75) rfl (by kernel_rfl) (by kernel_rfl) (by kernel_rfl) (fun _ _ _ h => h) (by rfl) (by assumption) ?ha75 ?hl75 ?hh75; (case ha75 => (simp only [Act.put, List.setIfInBounds_toArray, List.set_cons_zero, List.set_cons_succ, Option.isNone_none, Option.isNone_some, Bool.not_true, Bool.not_false]; (try with_reducible rfl))); (case hl75 => (simp only [Act.put, List.setIfInBounds_toArray, List.set_cons_zero, List.set_cons_succ, Option.isNone_none, Option.isNone_some, Bool.not_true, Bool.not_false]; (try with_reducible rfl)))) | (refine held_take (i := 1) (v := ?hV75) (a' := ?hA75) (l' := ?hL75) rfl (by kernel_rfl) (by kernel_rfl) (by kernel_rfl) (fun _ _ _ h => h) (by rfl) ?hv75 (by assumption) ?ha75 ?hl75 ?hh75; (case hv75 => (intro w hSw; (try dsimp only at hSw); go_simp; (try simp only [run_eql_slice_nil _ 27 _ _ _ _ Try.underlying27, Result.andThen_ok]); (try with_reducible rfl))); (case ha75 => (simp only [Act.put, List.setIfInBounds_toArray, List.set_cons_zero, List.set_cons_succ, Option.isNone_none, Option.isNone_some, Bool.not_true, Bool.not_false]; (try with_reducible rfl))); (case hl75 => (simp only [Act.put, List.setIfInBounds_toArray, List.set_cons_zero, List.set_cons_succ, Option.isNone_none, Option.isNone_some, Bool.not_true, Bool.not_false]; (try with_reducible rfl))))); (first | (refine held_skip (i := 2) (a' := ?hA76) (l' := ?hL76) rfl (by kernel_rfl) (by kernel_rfl) (by kernel_rfl) (fun _ _ _ h => h) (by rfl) (by assumption) ?ha76 ?hl76 ?hh76; (case ha76 => (simp only [Act.put, List.setIfInBounds_toArray, List.set_cons_zero, List.set_cons_succ, Option.isNone_none, Option.isNone_some, Bool.not_true, Bool.not_false]; (try with_reducible rfl))); (case hl76 => (simp only [Act.put, List.setIfInBounds_toArray, List.set_cons_zero, List.set_cons_succ, Option.isNone_none, Option.isNone_some, Bool.not_true, Bool.not_false]; (try with_reducible rfl)))) | (refine held_take (i := 2) (v := ?hV76) (a' := ?hA76) (l' := ?hL76) rfl (by kernel_rfl) (by kernel_rfl) (by kernel_rfl) (fun _ _ _ h => h) (by rfl) ?hv76 (by assumption) ?ha76 ?hl76 ?hh76; (case hv76 => (intro w hSw; (try dsimp only at hSw); go_simp; (try simp only [run_eql_slice_nil _ 27 _ _ _ _ Try.underlying27, Result.andThen_ok]); (try with_reducible rfl))); (case ha76 => (simp only [Act.put, List.setIfInBounds_toArray, List.set_cons_zero, List.set_cons_succ, Option.isNone_none, Option.isNone_some, Bool.not_true, Bool.not_false]; (try with_reducible rfl))); (case hl76 => (simp only [Act.put, List.setIfInBounds_toArray, List.set_cons_zero, List.set_cons_succ, Option.isNone_none, Option.isNone_some, Bool.not_true, Bool.not_false]; (try with_reducible rfl))))); (first | (refine held_skip (i := 3) (a' := ?hA77) (l' := ?hL77) rfl (by kernel_rfl) (by kernel_rfl) (by kernel_rfl) (fun _ _ _ h => h) (by rfl) (by assumption) ?ha77 ?hl77 ?hh77; (case ha77 => (simp only [Act.put, List.setIfInBounds_toArray, List.set_cons_zero, List.set_cons_succ, Option.isNone_none, Option.isNone_some, Bool.not_true, Bool.not_false]; (try with_reducible rfl))); (case hl77 => (simp only [Act.put, List.setIfInBounds_toArray, List.set_cons_zero, List.set_cons_succ, Option.isNone_none, Option.isNone_some, Bool.not_true, Bool.not_false]; (try with_reducible rfl)))) | (refine held_take (i := 3) (v := ?hV77) (a' := ?hA77) (l' := ?hL77) rfl (by kernel_rfl) (by kernel_rfl) (by kernel_rfl) (fun _ _ _ h => h) (by rfl) ?hv77 (by assumption) ?ha77 ?hl77 ?hh77; (case hv77 => (intro w hSw; (try dsimp only at hSw); go_simp; (try simp only [run_eql_slice_nil _ 27 _ _ _ _ Try.underlying27, Result.andThen_ok]); (try with_reducible rfl))); (case ha77 => (simp only [Act.put, List.setIfInBounds_toArray, List.set_cons_zero, List.set_cons_succ, Option.isNone_none, Option.isNone_some, Bool.not_true, Bool.not_false]; (try with_reducible rfl))); (case hl77 => (simp only [Act.put, List.setIfInBounds_toArray, List.set_cons_zero, List.set_cons_succ, Option.isNone_none, Option.isNone_some, Bool.not_true, Bool.not_false]; (try with_reducible rfl))))); (first | (refine held_skip (i := 4) (a' := ?hA78) (l' := ?hL78) rfl (by kernel_rfl) (by kernel_rfl) (by kernel_rfl) (fun _ _ _ h => h) (by rfl) (by assumption) ?ha78 ?hl78 ?hh78; (case ha78 => (simp only [Act.put, List.setIfInBounds_toArray, List.set_cons_zero, List.set_cons_succ, Option.isNone_none, Option.isNone_some, Bool.not_true, Bool.not_false]; (try with_reducible rfl))); (case hl78 => (simp only [Act.put, List.setIfInBounds_toArray, List.set_cons_zero, List.set_cons_succ, Option.isNone_none, Option.isNone_some, Bool.not_true, Bool.not_false]; (try with_reducible rfl)))) | (refine held_take (i := 4) (v := ?hV78) (a' := ?hA78) (l' := ?hL78) rfl (by kernel_rfl) (by kernel_rfl) (by kernel_rfl) (fun _ _ _ h => h) (by rfl) ?hv78 (by assumption) ?ha78 ?hl78 ?hh78; (case hv78 => (intro w hSw; (try dsimp only at hSw); go_simp; (try simp only [run_eql_slice_nil _ 27 _ _ _ _ Try.underlying27, Result.andThen_ok]); (try with_reducible rfl))); (case ha78 => (simp only [Act.put, List.setIfInBounds_toArray, List.set_cons_zero, List.set_cons_succ, Option.isNone_none, Option.isNone_some, Bool.not_true, Bool.not_false]; (try with_reducible rfl))); (case hl78 => (simp only [Act.put, List.setIfInBounds_toArray, List.set_cons_zero, List.set_cons_succ, Option.isNone_none, Option.isNone_some, Bool.not_true, Bool.not_false]; (try with_reducible rfl))))); (first | (refine held_skip (i := 5) (a' := ?hA79) (l' := ?hL79) rfl (by kernel_rfl) (by kernel_rfl) (by kernel_rfl) (fun _ _ _ h => h) (by rfl) (by assumption) ?ha79 ?hl79 ?hh79; (case ha79 => (simp only [Act.put, List.setIfInBounds_toArray, List.set_cons_zero, List.set_cons_succ, Option.isNone_none, Option.isNone_some, Bool.not_true, Bool.not_false]; (try with_reducible rfl))); (case hl79 => (simp only [Act.put, List.setIfInBounds_toArray, List.set_cons_zero, List.set_cons_succ, Option.isNone_none, Option.isNone_some, Bool.not_true, Bool.not_false]; (try with_reducible rfl)))) | (refine held_take (i := 5) (v := ?hV79) (a' := ?hA79) (l' := ?hL79) rfl (by kernel_rfl) (by kernel_rfl) (by kernel_rfl) (fun _ _ _ h => h) (by rfl) ?hv79 (by assumption) ?ha79 ?hl79 ?hh79; (case hv79 => (intro w hSw; (try dsimp only at hSw); go_simp; (try simp only [run_eql_slice_nil _ 27 _ _ _ _ Try.underlying27, Result.andThen_ok]); (try with_reducible rfl))); (case ha79 => (simp only [Act.put, List.setIfInBounds_toArray, List.set_cons_zero, List.set_cons_succ, Option.isNone_none, Option.isNone_some, Bool.not_true, Bool.not_false]; (try with_reducible rfl))); (case hl79 => (simp only [Act.put, List.setIfInBounds_toArray, List.set_cons_zero, List.set_cons_succ, Option.isNone_none, Option.isNone_some, Bool.not_true, Bool.not_false]; (try with_reducible rfl))))); (first | (refine held_skip (i := 6) (a' := ?hA80) (l' := ?hL80) rfl (by kernel_rfl) (by kernel_rfl) (by kernel_rfl) (fun _ _ _ h => h) (by rfl) (by assumption) ?ha80 ?hl80 ?hh80; (case ha80 => (simp only [Act.put, List.setIfInBounds_toArray, List.set_cons_zero, List.set_cons_succ, Option.isNone_none, Option.isNone_some, Bool.not_true, Bool.not_false]; (try with_reducible rfl))); (case hl80 => (simp only [Act.put, List.setIfInBounds_toArray, List.set_cons_zero, List.set_cons_succ, Option.isNone_none, Option.isNone_some, Bool.not_true, Bool.not_false]; (try with_reducible rfl)))) | (refine held_take (i := 6) (v := ?hV80) (a' := ?hA80) (l' := ?hL80) rfl (by kernel_rfl) (by kernel_rfl) (by kernel_rfl) (fun _ _ _ h => h) (by rfl) ?hv80 (by assumption) ?ha80 ?hl80 ?hh80; (case hv80 => (intro w hSw; (try dsimp only at hSw); go_simp; (try simp only [run_eql_slice_nil _ 27 _ _ _ _ Try.underlying27, Result.andThen_ok]); (try with_reducible rfl))); (case ha80 => (simp only [Act.put, List.setIfInBounds_toArray, List.set_cons_zero, List.set_cons_succ, Option.isNone_none, Option.isNone_some, Bool.not_true, Bool.not_false]; (try with_reducible rfl))); (case hl80 => (simp only [Act.put, List.setIfInBounds_toArray, List.set_cons_zero, List.set_cons_succ, Option.isNone_none, Option.isNone_some, Bool.not_true, Bool.not_false]; (try with_reducible rfl))))); (first | (refine held_skip (i := 7) (a' := ?hA81) (l' := ?hL81) rfl (by kernel_rfl) (by kernel_rfl) (by kernel_rfl) (fun _ _ _ h => h) (by rfl) (by assumption) ?ha81 ?hl81 ?hh81; (case ha81 => (simp only [Act.put, List.setIfInBounds_toArray, List.set_cons_zero, List.set_cons_succ, Option.isNone_none, Option.isNone_some, Bool.not_true, Bool.not_false]; (try with_reducible rfl))); (case hl81 => (simp only [Act.put, List.setIfInBounds_toArray, List.set_cons_zero, List.set_cons_succ, Option.isNone_none, Option.isNone_some, Bool.not_true, Bool.not_false]; (try with_reducible rfl)))) | (refine held_take (i := 7) (v := ?hV81) (a' := ?hA81) (l' := ?hL81) rfl (by kernel_rfl) (by kernel_rfl) (by kernel_rfl) (fun _ _ _ h => h) (by rfl) ?hv81 (by assumption) ?ha81 ?hl81 ?hh81; (case hv81 => (intro w hSw; (try dsimp only at hSw); go_simp; (try simp only [run_eql_slice_nil _ 27 _ _ _ _ Try.underlying27, Result.andThen_ok]); (try with_reducible rfl))); (case ha81 => (simp only [Act.put, List.setIfInBounds_toArray, List.set_cons_zero, List.set_cons_succ, Option.isNone_none, Option.isNone_some, Bool.not_true, Bool.not_false]; (try with_reducible rfl))); (case hl81 => (simp only [Act.put, List.setIfInBounds_toArray, List.set_cons_zero, List.set_cons_succ, Option.isNone_none, Option.isNone_some, Bool.not_true, Bool.not_false]; (try with_reducible rfl))))))
            refine held_one (i := 8) rfl (by kernel_rfl) (fun K hK => ?_)
            go_simp
            go_at_call 26
            (with_reducible refine (CE1.out).mono ?_)
            rintro e w6 ⟨rfl, hf6⟩
            (refine held_back hK (a' := ?hA110) (l' := ?hL110) ?ha110 ?hl110 (⟨hSC.out _ hf6, hSD.out _ hf6⟩) (fun hHeld => ?hh110); (case ha110 => first | with_reducible rfl | (simp only [Act.put, List.setIfInBounds_toArray, List.set_cons_zero, List.set_cons_succ, Option.isNone_none, Option.isNone_some, Bool.not_true, Bool.not_false]; (try with_reducible rfl))); (case hl110 => (simp only [Act.put, List.setIfInBounds_toArray, List.set_cons_zero, List.set_cons_succ, Option.isNone_none, Option.isNone_some, Bool.not_true, Bool.not_false]; (try with_reducible rfl))); clear hK K)
            ((first | (refine held_skip (i := 9) (a' := ?hA82) (l' := ?hL82) rfl (by kernel_rfl) (by kernel_rfl) (by kernel_rfl) (fun _ _ _ h => h) (by rfl) (by assumption) ?ha82 ?hl82 ?hh82; (case ha82 => (simp only [Act.put, List.setIfInBounds_toArray, List.set_cons_zero, List.set_cons_succ, Option.isNone_none, Option.isNone_some, Bool.not_true, Bool.not_false]; (try with_reducible rfl))); (case hl82 => (simp only [Act.put, List.setIfInBounds_toArray, List.set_cons_zero, List.set_cons_succ, Option.isNone_none, Option.isNone_some, Bool.not_true, Bool.not_false]; (try with_reducible rfl)))) | (refine held_take (i := 9) (v := ?hV82) (a' := ?hA82) (l' := ?hL82) rfl (by kernel_rfl) (by kernel_rfl) (by kernel_rfl) (fun _ _ _ h => h) (by rfl) ?hv82 (by assumption) ?ha82 ?hl82 ?hh82; (case hv82 => (intro w hSw; (try dsimp only at hSw); go_simp; (try simp only [run_eql_slice_nil _ 27 _ _ _ _ Try.underlying27, Result.andThen_ok]); (try with_reducible rfl))); (case ha82 => (simp only [Act.put, List.setIfInBounds_toArray, List.set_cons_zero, List.set_cons_succ, Option.isNone_none, Option.isNone_some, Bool.not_true, Bool.not_false]; (try with_reducible rfl))); (case hl82 => (simp only [Act.put, List.setIfInBounds_toArray, List.set_cons_zero, List.set_cons_succ, Option.isNone_none, Option.isNone_some, Bool.not_true, Bool.not_false]; (try with_reducible rfl))))); (first | (refine held_skip (i := 10) (a' := ?hA83) (l' := ?hL83) rfl (by kernel_rfl) (by kernel_rfl) (by kernel_rfl) (fun _ _ _ h => h) (by rfl) (by assumption) ?ha83 ?hl83 ?hh83; (case ha83 => (simp only [Act.put, List.setIfInBounds_toArray, List.set_cons_zero, List.set_cons_succ, Option.isNone_none, Option.isNone_some, Bool.not_true, Bool.not_false]; (try with_reducible rfl))); (case hl83 => (simp only [Act.put, List.setIfInBounds_toArray, List.set_cons_zero, List.set_cons_succ, Option.isNone_none, Option.isNone_some, Bool.not_true, Bool.not_false]; (try with_reducible rfl)))) | (refine held_take (i := 10) (v := ?hV83) (a' := ?hA83) (l' := ?hL83) rfl (by kernel_rfl) (by kernel_rfl) (by kernel_rfl) (fun _ _ _ h => h) (by rfl) ?hv83 (by assumption) ?ha83 ?hl83 ?hh83; (case hv83 => (intro w hSw; (try dsimp only at hSw); go_simp; (try simp only [run_eql_slice_nil _ 27 _ _ _ _ Try.underlying27, Result.andThen_ok]); (try with_reducible rfl))); (case ha83 => (simp only [Act.put, List.setIfInBounds_toArray, List.set_cons_zero, List.set_cons_succ, Option.isNone_none, Option.isNone_some, Bool.not_true, Bool.not_false]; (try with_reducible rfl))); (case hl83 => (simp only [Act.put, List.setIfInBounds_toArray, List.set_cons_zero, List.set_cons_succ, Option.isNone_none, Option.isNone_some, Bool.not_true, Bool.not_false]; (try with_reducible rfl))))); (first | (refine held_skip (i := 11) (a' := ?hA84) (l' := ?hL84) rfl (by kernel_rfl) (by kernel_rfl) (by kernel_rfl) (fun _ _ _ h => h) (by rfl) (by assumption) ?ha84 ?hl84 ?hh84; (case ha84 => (simp only [Act.put, List.setIfInBounds_toArray, List.set_cons_zero, List.set_cons_succ, Option.isNone_none, Option.isNone_some, Bool.not_true, Bool.not_false]; (try with_reducible rfl))); (case hl84 => (simp only [Act.put, List.setIfInBounds_toArray, List.set_cons_zero, List.set_cons_succ, Option.isNone_none, Option.isNone_some, Bool.not_true, Bool.not_false]; (try with_reducible rfl)))) | (refine held_take (i := 11) (v := ?hV84) (a' := ?hA84) (l' := ?hL84) rfl (by kernel_rfl) (by kernel_rfl) (by kernel_rfl) (fun _ _ _ h => h) (by rfl) ?hv84 (by assumption) ?ha84 ?hl84 ?hh84; (case hv84 => (intro w hSw; (try dsimp only at hSw); go_simp; (try simp only [run_eql_slice_nil _ 27 _ _ _ _ Try.underlying27, Result.andThen_ok]); (try with_reducible rfl))); (case ha84 => (simp only [Act.put, List.setIfInBounds_toArray, List.set_cons_zero, List.set_cons_succ, Option.isNone_none, Option.isNone_some, Bool.not_true, Bool.not_false]; (try with_reducible rfl))); (case hl84 => (simp only [Act.put, List.setIfInBounds_toArray, List.set_cons_zero, List.set_cons_succ, Option.isNone_none, Option.isNone_some, Bool.not_true, Bool.not_false]; (try with_reducible rfl))))); (first | (refine held_skip (i := 12) (a' := ?hA85) (l' := ?hL85) rfl (by kernel_rfl) (by kernel_rfl) (by kernel_rfl) (fun _ _ _ h => h) (by rfl) (by assumption) ?ha85 ?hl85 ?hh85; (case ha85 => (simp only [Act.put, List.setIfInBounds_toArray, List.set_cons_zero, List.set_cons_succ, Option.isNone_none, Option.isNone_some, Bool.not_true, Bool.not_false]; (try with_reducible rfl))); (case hl85 => (simp only [Act.put, List.setIfInBounds_toArray, List.set_cons_zero, List.set_cons_succ, Option.isNone_none, Option.isNone_some, Bool.not_true, Bool.not_false]; (try with_reducible rfl)))) | (refine held_take (i := 12) (v := ?hV85) (a' := ?hA85) (l' := ?hL85) rfl (by kernel_rfl) (by kernel_rfl) (by kernel_rfl) (fun _ _ _ h => h) (by rfl) ?hv85 (by assumption) ?ha85 ?hl85 ?hh85; (case hv85 => (intro w hSw; (try dsimp only at hSw); go_simp; (try simp only [run_eql_slice_nil _ 27 _ _ _ _ Try.underlying27, Result.andThen_ok]); (try with_reducible rfl))); (case ha85 => (simp only [Act.put, List.setIfInBounds_toArray, List.set_cons_zero, List.set_cons_succ, Option.isNone_none, Option.isNone_some, Bool.not_true, Bool.not_false]; (try with_reducible rfl))); (case hl85 => (simp only [Act.put, List.setIfInBounds_toArray, List.set_cons_zero, List.set_cons_succ, Option.isNone_none, Option.isNone_some, Bool.not_true, Bool.not_false]; (try with_reducible rfl))))); (first | (refine held_skip (i := 13) (a' := ?hA86) (l' := ?hL86) rfl (by kernel_rfl) (by kernel_rfl) (by kernel_rfl) (fun _ _ _ h => h) (by rfl) (by assumption) ?ha86 ?hl86 ?hh86; (case ha86 => (simp only [Act.put, List.setIfInBounds_toArray, List.set_cons_zero, List.set_cons_succ, Option.isNone_none, Option.isNone_some, Bool.not_true, Bool.not_false]; (try with_reducible rfl))); (case hl86 => (simp only [Act.put, List.setIfInBounds_toArray, List.set_cons_zero, List.set_cons_succ, Option.isNone_none, Option.isNone_some, Bool.not_true, Bool.not_false]; (try with_reducible rfl)))) | (refine held_take (i := 13) (v := ?hV86) (a' := ?hA86) (l' := ?hL86) rfl (by kernel_rfl) (by kernel_rfl) (by kernel_rfl) (fun _ _ _ h => h) (by rfl) ?hv86 (by assumption) ?ha86 ?hl86 ?hh86; (case hv86 => (intro w hSw; (try dsimp only at hSw); go_simp; (try simp only [run_eql_slice_nil _ 27 _ _ _ _ Try.underlying27, Result.andThen_ok]); (try with_reducible rfl))); (case ha86 => (simp only [Act.put, List.setIfInBounds_toArray, List.set_cons_zero, List.set_cons_succ, Option.isNone_none, Option.isNone_some, Bool.not_true, Bool.not_false]; (try with_reducible rfl))); (case hl86 => (simp only [Act.put, List.setIfInBounds_toArray, List.set_cons_zero, List.set_cons_succ, Option.isNone_none, Option.isNone_some, Bool.not_true, Bool.not_false]; (try with_reducible rfl))))); (first | (refine held_skip (i := 14) (a' := ?hA87) (l' := ?hL87) rfl (by kernel_rfl) (by kernel_rfl) (by kernel_rfl) (fun _ _ _ h => h) (by rfl) (by assumption) ?ha87 ?hl87 ?hh87; (case ha87 => (simp only [Act.put, List.setIfInBounds_toArray, List.set_cons_zero, List.set_cons_succ, Option.isNone_none, Option.isNone_some, Bool.not_true, Bool.not_false]; (try with_reducible rfl))); (case hl87 => (simp only [Act.put, List.setIfInBounds_toArray, List.set_cons_zero, List.set_cons_succ, Option.isNone_none, Option.isNone_some, Bool.not_true, Bool.not_false]; (try with_reducible rfl)))) | (refine held_take (i := 14) (v := ?hV87) (a' := ?hA87) (l' := ?hL87) rfl (by kernel_rfl) (by kernel_rfl) (by kernel_rfl) (fun _ _ _ h => h) (by rfl) ?hv87 (by assumption) ?ha87 ?hl87 ?hh87; (case hv87 => (intro w hSw; (try dsimp only at hSw); go_simp; (try simp only [run_eql_slice_nil _ 27 _ _ _ _ Try.underlying27, Result.andThen_ok]); (try with_reducible rfl))); (case ha87 => (simp only [Act.put, List.setIfInBounds_toArray, List.set_cons_zero, List.set_cons_succ, Option.isNone_none, Option.isNone_some, Bool.not_true, Bool.not_false]; (try with_reducible rfl))); (case hl87 => (simp only [Act.put, List.setIfInBounds_toArray, List.set_cons_zero, List.set_cons_succ, Option.isNone_none, Option.isNone_some, Bool.not_true, Bool.not_false]; (try with_reducible rfl))))); (first | (refine held_skip (i := 15) (a' := ?hA88) (l' := ?hL88) rfl (by kernel_rfl) (by kernel_rfl) (by kernel_rfl) (fun _ _ _ h => h) (by rfl) (by assumption) ?ha88 ?hl88 ?hh88; (case ha88 => (simp only [Act.put, List.setIfInBounds_toArray, List.set_cons_zero, List.set_cons_succ, Option.isNone_none, Option.isNone_some, Bool.not_true, Bool.not_false]; (try with_reducible rfl))); (case hl88 => (simp only [Act.put, List.setIfInBounds_toArray, List.set_cons_zero, List.set_cons_succ, Option.isNone_none, Option.isNone_some, Bool.not_true, Bool.not_false]; (try with_reducible rfl)))) | (refine held_take (i := 15) (v := ?hV88) (a' := ?hA88) (l' := ?hL88) rfl (by kernel_rfl) (by kernel_rfl) (by kernel_rfl) (fun _ _ _ h => h) (by rfl) ?hv88 (by assumption) ?ha88 ?hl88 ?hh88; (case hv88 => (intro w hSw; (try dsimp only at hSw); go_simp; (try simp only [run_eql_slice_nil _ 27 _ _ _ _ Try.underlying27, Result.andThen_ok]); (try with_reducible rfl))); (case ha88 => (simp only [Act.put, List.setIfInBounds_toArray, List.set_cons_zero, List.set_cons_succ, Option.isNone_none, Option.isNone_some, Bool.not_true, Bool.not_false]; (try with_reducible rfl))); (case hl88 => (simp only [Act.put, List.setIfInBounds_toArray, List.set_cons_zero, List.set_cons_succ, Option.isNone_none, Option.isNone_some, Bool.not_true, Bool.not_false]; (try with_reducible rfl))))); (first | (refine held_skip (i := 16) (a' := ?hA89) (l' := ?hL89) rfl (by kernel_rfl) (by kernel_rfl) (by kernel_rfl) (fun _ _ _ h => h) (by rfl) (by assumption) ?ha89 ?hl89 ?hh89; (case ha89 => (simp only [Act.put, List.setIfInBounds_toArray, List.set_cons_zero, List.set_cons_succ, Option.isNone_none, Option.isNone_some, Bool.not_true, Bool.not_false]; (try with_reducible rfl))); (case hl89 => (simp only [Act.put, List.setIfInBounds_toArray, List.set_cons_zero, List.set_cons_succ, Option.isNone_none, Option.isNone_some, Bool.not_true, Bool.not_false]; (try with_reducible rfl)))) | (refine held_take (i := 16) (v := ?hV89) (a' := ?hA89) (l' := ?hL89) rfl (by kernel_rfl) (by kernel_rfl) (by kernel_rfl) (fun _ _ _ h => h) (by rfl) ?hv89 (by assumption) ?ha89 ?hl89 ?hh89; (case hv89 => (intro w hSw; (try dsimp only at hSw); go_simp; (try simp only [run_eql_slice_nil _ 27 _ _ _ _ Try.underlying27, Result.andThen_ok]); (try with_reducible rfl))); (case ha89 => (simp only [Act.put, List.setIfInBounds_toArray, List.set_cons_zero, List.set_cons_succ, Option.isNone_none, Option.isNone_some, Bool.not_true, Bool.not_false]; (try with_reducible rfl))); (case hl89 => (simp only [Act.put, List.setIfInBounds_toArray, List.set_cons_zero, List.set_cons_succ, Option.isNone_none, Option.isNone_some, Bool.not_true, Bool.not_false]; (try with_reducible rfl))))); (first | (refine held_skip (i := 17) (a' := ?hA90) (l' := ?hL90) rfl (by kernel_rfl) (by kernel_rfl) (by kernel_rfl) (fun _ _ _ h => h) (by rfl) (by assumption) ?ha90 ?hl90 ?hh90; (case ha90 => (simp only [Act.put, List.setIfInBounds_toArray, List.set_cons_zero, List.set_cons_succ, Option.isNone_none, Option.isNone_some, Bool.not_true, Bool.not_false]; (try with_reducible rfl))); (case hl90 => (simp only [Act.put, List.setIfInBounds_toArray, List.set_cons_zero, List.set_cons_succ, Option.isNone_none, Option.isNone_some, Bool.not_true, Bool.not_false]; (try with_reducible rfl)))) | (refine held_take (i := 17) (v := ?hV90) (a' := ?hA90) (l' := ?hL90) rfl (by kernel_rfl) (by kernel_rfl) (by kernel_rfl) (fun _ _ _ h => h) (by rfl) ?hv90 (by assumption) ?ha90 ?hl90 ?hh90; (case hv90 => (intro w hSw; (try dsimp only at hSw); go_simp; (try simp only [run_eql_slice_nil _ 27 _ _ _ _ Try.underlying27, Result.andThen_ok]); (try with_reducible rfl))); (case ha90 => (simp only [Act.put, List.setIfInBounds_toArray, List.set_cons_zero, List.set_cons_succ, Option.isNone_none, Option.isNone_some, Bool.not_true, Bool.not_false]; (try with_reducible rfl))); (case hl90 => (simp only [Act.put, List.setIfInBounds_toArray, List.set_cons_zero, List.set_cons_succ, Option.isNone_none, Option.isNone_some, Bool.not_true, Bool.not_false]; (try with_reducible rfl))))); (first | (refine held_skip (i := 18) (a' := ?hA91) (l' := ?hL91) rfl (by kernel_rfl) (by kernel_rfl) (by kernel_rfl) (fun _ _ _ h => h) (by rfl) (by assumption) ?ha91 ?hl91 ?hh91; (case ha91 => (simp only [Act.put, List.setIfInBounds_toArray, List.set_cons_zero, List.set_cons_succ, Option.isNone_none, Option.isNone_some, Bool.not_true, Bool.not_false]; (try with_reducible rfl))); (case hl91 => (simp only [Act.put, List.setIfInBounds_toArray, List.set_cons_zero, List.set_cons_succ, Option.isNone_none, Option.isNone_some, Bool.not_true, Bool.not_false]; (try with_reducible rfl)))) | (refine held_take (i := 18) (v := ?hV91) (a' := ?hA91) (l' := ?hL91) rfl (by kernel_rfl) (by kernel_rfl) (by kernel_rfl) (fun _ _ _ h => h) (by rfl) ?hv91 (by assumption) ?ha91 ?hl91 ?hh91; (case hv91 => (intro w hSw; (try dsimp only at hSw); go_simp; (try simp only [run_eql_slice_nil _ 27 _ _ _ _ Try.underlying27, Result.andThen_ok]); (try with_reducible rfl))); (case ha91 => (simp only [Act.put, List.setIfInBounds_toArray, List.set_cons_zero, List.set_cons_succ, Option.isNone_none, Option.isNone_some, Bool.not_true, Bool.not_false]; (try with_reducible rfl))); (case hl91 => (simp only [Act.put, List.setIfInBounds_toArray, List.set_cons_zero, List.set_cons_succ, Option.isNone_none, Option.isNone_some, Bool.not_true, Bool.not_false]; (try with_reducible rfl))))); (first | (refine held_skip (i := 19) (a' := ?hA92) (l' := ?hL92) rfl (by kernel_rfl) (by kernel_rfl) (by kernel_rfl) (fun _ _ _ h => h) (by rfl) (by assumption) ?ha92 ?hl92 ?hh92; (case ha92 => (simp only [Act.put, List.setIfInBounds_toArray, List.set_cons_zero, List.set_cons_succ, Option.isNone_none, Option.isNone_some, Bool.not_true, Bool.not_false]; (try with_reducible rfl))); (case hl92 => (simp only [Act.put, List.setIfInBounds_toArray, List.set_cons_zero, List.set_cons_succ, Option.isNone_none, Option.isNone_some, Bool.not_true, Bool.not_false]; (try with_reducible rfl)))) | (refine held_take (i := 19) (v := ?hV92) (a' := ?hA92) (l' := ?hL92) rfl (by kernel_rfl) (by kernel_rfl) (by kernel_rfl) (fun _ _ _ h => h) (by rfl) ?hv92 (by assumption) ?ha92 ?hl92 ?hh92; (case hv92 => (intro w hSw; (try dsimp only at hSw); go_simp; (try simp only [run_eql_slice_nil _ 27 _ _ _ _ Try.underlying27, Result.andThen_ok]); (try with_reducible rfl))); (case ha92 => (simp only [Act.put, List.setIfInBounds_toArray, List.set_cons_zero, List.set_cons_succ, Option.isNone_none, Option.isNone_some, Bool.not_true, Bool.not_false]; (try with_reducible rfl))); (case hl92 => (simp only [Act.put, List.setIfInBounds_toArray, List.set_cons_zero, List.set_cons_succ, Option.isNone_none, Option.isNone_some, Bool.not_true, Bool.not_false]; (try with_reducible rfl))))); (first | (refine held_skip (i := 20) (a' := ?hA93) (l' := ?hL93) rfl (by kernel_rfl) (by kernel_rfl) (by kernel_rfl) (fun _ _ _ h => h) (by rfl) (by assumption) ?ha93 ?hl93 ?hh93; (case ha93 => (simp only [Act.put, List.setIfInBounds_toArray, List.set_cons_zero, List.set_cons_succ, Option.isNone_none, Option.isNone_some, Bool.not_true, Bool.not_false]; (try with_reducible rfl))); (case hl93 => (simp only [Act.put, List.setIfInBounds_toArray, List.set_cons_zero, List.set_cons_succ, Option.isNone_none, Option.isNone_some, Bool.not_true, Bool.not_false]; (try with_reducible rfl)))) | (refine held_take (i := 20) (v := ?hV93) (a' := ?hA93) (l' := ?hL93) rfl (by kernel_rfl) (by kernel_rfl) (by kernel_rfl) (fun _ _ _ h => h) (by rfl) ?hv93 (by assumption) ?ha93 ?hl93 ?hh93; (case hv93 => (intro w hSw; (try dsimp only at hSw); go_simp; (try simp only [run_eql_slice_nil _ 27 _ _ _ _ Try.underlying27, Result.andThen_ok]); (try with_reducible rfl))); (case ha93 => (simp only [Act.put, List.setIfInBounds_toArray, List.set_cons_zero, List.set_cons_succ, Option.isNone_none, Option.isNone_some, Bool.not_true, Bool.not_false]; (try with_reducible rfl))); (case hl93 => (simp only [Act.put, List.setIfInBounds_toArray, List.set_cons_zero, List.set_cons_succ, Option.isNone_none, Option.isNone_some, Bool.not_true, Bool.not_false]; (try with_reducible rfl))))); (first | (refine held_skip (i := 21) (a' := ?hA94) (l' := ?hL94) rfl (by kernel_rfl) (by kernel_rfl) (by kernel_rfl) (fun _ _ _ h => h) (by rfl) (by assumption) ?ha94 ?hl94 ?hh94; (case ha94 => (simp only [Act.put, List.setIfInBounds_toArray, List.set_cons_zero, List.set_cons_succ, Option.isNone_none, Option.isNone_some, Bool.not_true, Bool.not_false]; (try with_reducible rfl))); (case hl94 => (simp only [Act.put, List.setIfInBounds_toArray, List.set_cons_zero, List.set_cons_succ, Option.isNone_none, Option.isNone_some, Bool.not_true, Bool.not_false]; (try with_reducible rfl)))) | (refine held_take (i := 21) (v := ?hV94) (a' := ?hA94) (l' := ?hL94) rfl (by kernel_rfl) (by kernel_rfl) (by kernel_rfl) (fun _ _ _ h => h) (by rfl) ?hv94 (by assumption) ?ha94 ?hl94 ?hh94; (case hv94 => (intro w hSw; (try dsimp only at hSw); go_simp; (try simp only [run_eql_slice_nil _ 27 _ _ _ _ Try.underlying27, Result.andThen_ok]); (try with_reducible rfl))); (case ha94 => (simp only [Act.put, List.setIfInBounds_toArray, List.set_cons_zero, List.set_cons_succ, Option.isNone_none, Option.isNone_some, Bool.not_true, Bool.not_false]; (try with_reducible rfl))); (case hl94 => (simp only [Act.put, List.setIfInBounds_toArray, List.set_cons_zero, List.set_cons_succ, Option.isNone_none, Option.isNone_some, Bool.not_true, Bool.not_false]; (try with_reducible rfl))))); (first | (refine held_skip (i := 22) (a' := ?hA95) (l' := ?hL95) rfl (by kernel_rfl) (by kernel_rfl) (by kernel_rfl) (fun _ _ _ h => h) (by rfl) (by assumption) ?ha95 ?hl95 ?hh95; (case ha95 => (simp only [Act.put, List.setIfInBounds_toArray, List.set_cons_zero, List.set_cons_succ, Option.isNone_none, Option.isNone_some, Bool.not_true, Bool.not_false]; (try with_reducible rfl))); (case hl95 => (simp only [Act.put, List.setIfInBounds_toArray, List.set_cons_zero, List.set_cons_succ, Option.isNone_none, Option.isNone_some, Bool.not_true, Bool.not_false]; (try with_reducible rfl)))) | (refine held_take (i := 22) (v := ?hV95) (a' := ?hA95) (l' := ?hL95) rfl (by kernel_rfl) (by kernel_rfl) (by kernel_rfl) (fun _ _ _ h => h) (by rfl) ?hv95 (by assumption) ?ha95 ?hl95 ?hh95; (case hv95 => (intro w hSw; (try dsimp only at hSw); go_simp; (try simp only [run_eql_slice_nil _ 27 _ _ _ _ Try.underlying27, Result.andThen_ok]); (try with_reducible rfl))); (case ha95 => (simp only [Act.put, List.setIfInBounds_toArray, List.set_cons_zero, List.set_cons_succ, Option.isNone_none, Option.isNone_some, Bool.not_true, Bool.not_false]; (try with_reducible rfl))); (case hl95 => (simp only [Act.put, List.setIfInBounds_toArray, List.set_cons_zero, List.set_cons_succ, Option.isNone_none, Option.isNone_some, Bool.not_true, Bool.not_false]; (try with_reducible rfl))))); (first | (refine held_skip (i := 23) (a' := ?hA96) (l' := ?hL96) rfl (by kernel_rfl) (by kernel_rfl) (by kernel_rfl) (fun _ _ _ h => h) (by rfl) (by assumption) ?ha96 ?hl96 ?hh96; (case ha96 => (simp only [Act.put, List.setIfInBounds_toArray, List.set_cons_zero, List.set_cons_succ, Option.isNone_none, Option.isNone_some, Bool.not_true, Bool.not_false]; (try with_reducible rfl))); (case hl96 => (simp only [Act.put, List.setIfInBounds_toArray, List.set_cons_zero, List.set_cons_succ, Option.isNone_none, Option.isNone_some, Bool.not_true, Bool.not_false]; (try with_reducible rfl)))) | (refine held_take (i := 23) (v := ?hV96) (a' := ?hA96) (l' := ?hL96) rfl (by kernel_rfl) (by kernel_rfl) (by kernel_rfl) (fun _ _ _ h => h) (by rfl) ?hv96 (by assumption) ?ha96 ?hl96 ?hh96; (case hv96 => (intro w hSw; (try dsimp only at hSw); go_simp; (try simp only [run_eql_slice_nil _ 27 _ _ _ _ Try.underlying27, Result.andThen_ok]); (try with_reducible rfl))); (case ha96 => (simp only [Act.put, List.setIfInBounds_toArray, List.set_cons_zero, List.set_cons_succ, Option.isNone_none, Option.isNone_some, Bool.not_true, Bool.not_false]; (try with_reducible rfl))); (case hl96 => (simp only [Act.put, List.setIfInBounds_toArray, List.set_cons_zero, List.set_cons_succ, Option.isNone_none, Option.isNone_some, Bool.not_true, Bool.not_false]; (try with_reducible rfl))))); (first | (refine held_skip (i := 24) (a' := ?hA97) (l' := ?hL97) rfl (by kernel_rfl) (by kernel_rfl) (by kernel_rfl) (fun _ _ _ h => h) (by rfl) (by assumption) ?ha97 ?hl97 ?hh97; (case ha97 => (simp only [Act.put, List.setIfInBounds_toArray, List.set_cons_zero, List.set_cons_succ, Option.isNone_none, Option.isNone_some, Bool.not_true, Bool.not_false]; (try with_reducible rfl))); (case hl97 => (simp only [Act.put, List.setIfInBounds_toArray, List.set_cons_zero, List.set_cons_succ, Option.isNone_none, Option.isNone_some, Bool.not_true, Bool.not_false]; (try with_reducible rfl)))) | (refine held_take (i := 24) (v := ?hV97) (a' := ?hA97) (l' := ?hL97) rfl (by kernel_rfl) (by kernel_rfl) (by kernel_rfl) (fun _ _ _ h => h) (by rfl) ?hv97 (by assumption) ?ha97 ?hl97 ?hh97; (case hv97 => (intro w hSw; (try dsimp only at hSw); go_simp; (try simp only [run_eql_slice_nil _ 27 _ _ _ _ Try.underlying27, Result.andThen_ok]); (try with_reducible rfl))); (case ha97 => (simp only [Act.put, List.setIfInBounds_toArray, List.set_cons_zero, List.set_cons_succ, Option.isNone_none, Option.isNone_some, Bool.not_true, Bool.not_false]; (try with_reducible rfl))); (case hl97 => (simp only [Act.put, List.setIfInBounds_toArray, List.set_cons_zero, List.set_cons_succ, Option.isNone_none, Option.isNone_some, Bool.not_true, Bool.not_false]; (try with_reducible rfl))))); (first | (refine held_skip (i := 25) (a' := ?hA98) (l' := ?hL98) rfl (by kernel_rfl) (by kernel_rfl) (by kernel_rfl) (fun _ _ _ h => h) (by rfl) (by assumption) ?ha98 ?hl98 ?hh98; (case ha98 => (simp only [Act.put, List.setIfInBounds_toArray, List.set_cons_zero, List.set_cons_succ, Option.isNone_none, Option.isNone_some, Bool.not_true, Bool.not_false]; (try with_reducible rfl))); (case hl98 => (simp only [Act.put, List.setIfInBounds_toArray, List.set_cons_zero, List.set_cons_succ, Option.isNone_none, Option.isNone_some, Bool.not_true, Bool.not_false]; (try with_reducible rfl)))) | (refine held_take (i := 25) (v := ?hV98) (a' := ?hA98) (l' := ?hL98) rfl (by kernel_rfl) (by kernel_rfl) (by kernel_rfl) (fun _ _ _ h => h) (by rfl) ?hv98 (by assumption) ?ha98 ?hl98 ?hh98; (case hv98 => (intro w hSw; (try dsimp only at hSw); go_simp; (try simp only [run_eql_slice_nil _ 27 _ _ _ _ Try.underlying27, Result.andThen_ok]); (try with_reducible rfl))); (case ha98 => (simp only [Act.put, List.setIfInBounds_toArray, List.set_cons_zero, List.set_cons_succ, Option.isNone_none, Option.isNone_some, Bool.not_true, Bool.not_false]; (try with_reducible rfl))); (case hl98 => (simp only [Act.put, List.setIfInBounds_toArray, List.set_cons_zero, List.set_cons_succ, Option.isNone_none, Option.isNone_some, Bool.not_true, Bool.not_false]; (try with_reducible rfl))))); (first | (refine held_skip (i := 26) (a' := ?hA99) (l' := ?hL99) rfl (by kernel_rfl) (by kernel_rfl) (by kernel_rfl) (fun _ _ _ h => h) (by rfl) (by assumption) ?ha99 ?hl99 ?hh99; (case ha99 => (simp only [Act.put, List.setIfInBounds_toArray, List.set_cons_zero, List.set_cons_succ, Option.isNone_none, Option.isNone_some, Bool.not_true, Bool.not_false]; (try with_reducible rfl))); (case hl99 => (simp only [Act.put, List.setIfInBounds_toArray, List.set_cons_zero, List.set_cons_succ, Option.isNone_none, Option.isNone_some, Bool.not_true, Bool.not_false]; (try with_reducible rfl)))) | (refine held_take (i := 26) (v := ?hV99) (a' := ?hA99) (l' := ?hL99) rfl (by kernel_rfl) (by kernel_rfl) (by kernel_rfl) (fun _ _ _ h => h) (by rfl) ?hv99 (by assumption) ?ha99 ?hl99 ?hh99; (case hv99 => (intro w hSw; (try dsimp only at hSw); go_simp; (try simp only [run_eql_slice_nil _ 27 _ _ _ _ Try.underlying27, Result.andThen_ok]); (try with_reducible rfl))); (case ha99 => (simp only [Act.put, List.setIfInBounds_toArray, List.set_cons_zero, List.set_cons_succ, Option.isNone_none, Option.isNone_some, Bool.not_true, Bool.not_false]; (try with_reducible rfl))); (case hl99 => (simp only [Act.put, List.setIfInBounds_toArray, List.set_cons_zero, List.set_cons_succ, Option.isNone_none, Option.isNone_some, Bool.not_true, Bool.not_false]; (try with_reducible rfl))))); (first | (refine held_skip (i := 27) (a' := ?hA100) (l' := ?hL100) rfl (by kernel_rfl) (by kernel_rfl) (by kernel_rfl) (fun _ _ _ h => h) (by rfl) (by assumption) ?ha100 ?hl100 ?hh100; (case ha100 => (simp only [Act.put, List.setIfInBounds_toArray, List.set_cons_zero, List.set_cons_succ, Option.isNone_none, Option.isNone_some, Bool.not_true, Bool.not_false]; (try with_reducible rfl))); (case hl100 => (simp only [Act.put, List.setIfInBounds_toArray, List.set_cons_zero, List.set_cons_succ, Option.isNone_none, Option.isNone_some, Bool.not_true, Bool.not_false]; (try with_reducible rfl)))) | (refine held_take (i := 27) (v := ?hV100) (a' := ?hA100) (l' := ?hL100) rfl (by kernel_rfl) (by kernel_rfl) (by kernel_rfl) (fun _ _ _ h => h) (by rfl) ?hv100 (by assumption) ?ha100 ?hl100 ?hh100; (case hv100 => (intro w hSw; (try dsimp only at hSw); go_simp; (try simp only [run_eql_slice_nil _ 27 _ _ _ _ Try.underlying27, Result.andThen_ok]); (try with_reducible rfl))); (case ha100 => (simp only [Act.put, List.setIfInBounds_toArray, List.set_cons_zero, List.set_cons_succ, Option.isNone_none, Option.isNone_some, Bool.not_true, Bool.not_false]; (try with_reducible rfl))); (case hl100 => (simp only [Act.put, List.setIfInBounds_toArray, List.set_cons_zero, List.set_cons_succ, Option.isNone_none, Option.isNone_some, Bool.not_true, Bool.not_false]; (try with_reducible rfl))))); (first | (refine held_skip (i := 28) (a' := ?hA101) (l' := ?hL101) rfl (by kernel_rfl) (by kernel_rfl) (by kernel_rfl) (fun _ _ _ h => h) (by rfl) (by assumption) ?ha101 ?hl101 ?hh101; (case ha101 => (simp only [Act.put, List.setIfInBounds_toArray, List.set_cons_zero, List.set_cons_succ, Option.isNone_none, Option.isNone_some, Bool.not_true, Bool.not_false]; (try with_reducible rfl))); (case hl101 => (simp only [Act.put, List.setIfInBounds_toArray, List.set_cons_zero, List.set_cons_succ, Option.isNone_none, Option.isNone_some, Bool.not_true, Bool.not_false]; (try with_reducible rfl)))) | (refine held_take (i := 28) (v := ?hV101) (a' := ?hA101) (l' := ?hL101) rfl (by kernel_rfl) (by kernel_rfl) (by kernel_rfl) (fun _ _ _ h => h) (by rfl) ?hv101 (by assumption) ?ha101 ?hl101 ?hh101; (case hv101 => (intro w hSw; (try dsimp only at hSw); go_simp; (try simp only [run_eql_slice_nil _ 27 _ _ _ _ Try.underlying27, Result.andThen_ok]); (try with_reducible rfl))); (case ha101 => (simp only [Act.put, List.setIfInBounds_toArray, List.set_cons_zero, List.set_cons_succ, Option.isNone_none, Option.isNone_some, Bool.not_true, Bool.not_false]; (try with_reducible rfl))); (case hl101 => (simp only [Act.put, List.setIfInBounds_toArray, List.set_cons_zero, List.set_cons_succ, Option.isNone_none, Option.isNone_some, Bool.not_true, Bool.not_false]; (try with_reducible rfl))))); (first | (refine held_skip (i := 29) (a' := ?hA102) (l' := ?hL102) rfl (by kernel_rfl) (by kernel_rfl) (by kernel_rfl) (fun _ _ _ h => h) (by rfl) (by assumption) ?ha102 ?hl102 ?hh102; (case ha102 => (simp only [Act.put, List.setIfInBounds_toArray, List.set_cons_zero, List.set_cons_succ, Option.isNone_none, Option.isNone_some, Bool.not_true, Bool.not_false]; (try with_reducible rfl))); (case hl102 => (simp only [Act.put, List.setIfInBounds_toArray, List.set_cons_zero, List.set_cons_succ, Option.isNone_none, Option.isNone_some, Bool.not_true, Bool.not_false]; (try with_reducible rfl)))) | (refine held_take (i := 29) (v := ?hV102) (a' := ?hA102) (l' := ?hL102) rfl (by kernel_rfl) (by kernel_rfl) (by kernel_rfl) (fun _ _ _ h => h) (by rfl) ?hv102 (by assumption) ?ha102 ?hl102 ?hh102; (case hv102 => (intro w hSw; (try dsimp only at hSw); go_simp; (try simp only [run_eql_slice_nil _ 27 _ _ _ _ Try.underlying27, Result.andThen_ok]); (try with_reducible rfl))); (case ha102 => (simp only [Act.put, List.setIfInBounds_toArray, List.set_cons_zero, List.set_cons_succ, Option.isNone_none, Option.isNone_some, Bool.not_true, Bool.not_false]; (try with_reducible rfl))); (case hl102 => (simp only [Act.put, List.setIfInBounds_toArray, List.set_cons_zero, List.set_cons_succ, Option.isNone_none, Option.isNone_some, Bool.not_true, Bool.not_false]; (try with_reducible rfl))))); (first | (refine held_skip (i := 30) (a' := ?hA103) (l' := ?hL103) rfl (by kernel_rfl) (by kernel_rfl) (by kernel_rfl) (fun _ _ _ h => h) (by rfl) (by assumption) ?ha103 ?hl103 ?hh103; (case ha103 => (simp only [Act.put, List.setIfInBounds_toArray, List.set_cons_zero, List.set_cons_succ, Option.isNone_none, Option.isNone_some, Bool.not_true, Bool.not_false]; (try with_reducible rfl))); (case hl103 => (simp only [Act.put, List.setIfInBounds_toArray, List.set_cons_zero, List.set_cons_succ, Option.isNone_none, Option.isNone_some, Bool.not_true, Bool.not_false]; (try with_reducible rfl)))) | (refine held_take (i := 30) (v := ?hV103) (a' := ?hA103) (l' := ?hL103) rfl (by kernel_rfl) (by kernel_rfl) (by kernel_rfl) (fun _ _ _ h => h) (by rfl) ?hv103 (by assumption) ?ha103 ?hl103 ?hh103; (case hv103 => (intro w hSw; (try dsimp only at hSw); go_simp; (try simp only [run_eql_slice_nil _ 27 _ _ _ _ Try.underlying27, Result.andThen_ok]); (try with_reducible rfl))); (case ha103 => (simp only [Act.put, List.setIfInBounds_toArray, List.set_cons_zero, List.set_cons_succ, Option.isNone_none, Option.isNone_some, Bool.not_true, Bool.not_false]; (try with_reducible rfl))); (case hl103 => (simp only [Act.put, List.setIfInBounds_toArray, List.set_cons_zero, List.set_cons_succ, Option.isNone_none, Option.isNone_some, Bool.not_true, Bool.not_false]; (try with_reducible rfl))))); (first | (refine held_skip (i := 31) (a' := ?hA104) (l' := ?hL104) rfl (by kernel_rfl) (by kernel_rfl) (by kernel_rfl) (fun _ _ _ h => h) (by rfl) (by assumption) ?ha104 ?hl104 ?hh104; (case ha104 => (simp only [Act.put, List.setIfInBounds_toArray, List.set_cons_zero, List.set_cons_succ, Option.isNone_none, Option.isNone_some, Bool.not_true, Bool.not_false]; (try with_reducible rfl))); (case hl104 => (simp only [Act.put, List.setIfInBounds_toArray, List.set_cons_zero, List.set_cons_succ, Option.isNone_none, Option.isNone_some, Bool.not_true, Bool.not_false]; (try with_reducible rfl)))) | (refine held_take (i := 31) (v := ?hV104) (a' := ?hA104) (l' := ?hL104) rfl (by kernel_rfl) (by kernel_rfl) (by kernel_rfl) (fun _ _ _ h => h) (by rfl) ?hv104 (by assumption) ?ha104 ?hl104 ?hh104; (case hv104 => (intro w hSw; (try dsimp only at hSw); go_simp; (try simp only [run_eql_slice_nil _ 27 _ _ _ _ Try.underlying27, Result.andThen_ok]); (try with_reducible rfl))); (case ha104 => (simp only [Act.put, List.setIfInBounds_toArray, List.set_cons_zero, List.set_cons_succ, Option.isNone_none, Option.isNone_some, Bool.not_true, Bool.not_false]; (try with_reducible rfl))); (case hl104 => (simp only [Act.put, List.setIfInBounds_toArray, List.set_cons_zero, List.set_cons_succ, Option.isNone_none, Option.isNone_some, Bool.not_true, Bool.not_false]; (try with_reducible rfl))))); (first | (refine held_skip (i := 32) (a' := ?hA105) (l' := ?hL105) rfl (by kernel_rfl) (by kernel_rfl) (by kernel_rfl) (fun _ _ _ h => h) (by rfl) (by assumption) ?ha105 ?hl105 ?hh105; (case ha105 => (simp only [Act.put, List.setIfInBounds_toArray, List.set_cons_zero, List.set_cons_succ, Option.isNone_none, Option.isNone_some, Bool.not_true, Bool.not_false]; (try with_reducible rfl))); (case hl105 => (simp only [Act.put, List.setIfInBounds_toArray, List.set_cons_zero, List.set_cons_succ, Option.isNone_none, Option.isNone_some, Bool.not_true, Bool.not_false]; (try with_reducible rfl)))) | (refine held_take (i := 32) (v := ?hV105) (a' := ?hA105) (l' := ?hL105) rfl (by kernel_rfl) (by kernel_rfl) (by kernel_rfl) (fun _ _ _ h => h) (by rfl) ?hv105 (by assumption) ?ha105 ?hl105 ?hh105; (case hv105 => (intro w hSw; (try dsimp only at hSw); go_simp; (try simp only [run_eql_slice_nil _ 27 _ _ _ _ Try.underlying27, Result.andThen_ok]); (try with_reducible rfl))); (case ha105 => (simp only [Act.put, List.setIfInBounds_toArray, List.set_cons_zero, List.set_cons_succ, Option.isNone_none, Option.isNone_some, Bool.not_true, Bool.not_false]; (try with_reducible rfl))); (case hl105 => (simp only [Act.put, List.setIfInBounds_toArray, List.set_cons_zero, List.set_cons_succ, Option.isNone_none, Option.isNone_some, Bool.not_true, Bool.not_false]; (try with_reducible rfl))))))
            refine held_one (i := 33) rfl (by kernel_rfl) (fun K hK => ?_)
            go_simp
            go_at_call 26
            (with_reducible refine (CE2.out _ hf6).mono ?_)
            rintro e w7 ⟨rfl, hf7⟩
            (refine held_back hK (a' := ?hA111) (l' := ?hL111) ?ha111 ?hl111 (⟨hSC.out _ hf7, hSD.out _ hf7⟩) (fun hHeld => ?hh111); (case ha111 => first | with_reducible rfl | (simp only [Act.put, List.setIfInBounds_toArray, List.set_cons_zero, List.set_cons_succ, Option.isNone_none, Option.isNone_some, Bool.not_true, Bool.not_false]; (try with_reducible rfl))); (case hl111 => (simp only [Act.put, List.setIfInBounds_toArray, List.set_cons_zero, List.set_cons_succ, Option.isNone_none, Option.isNone_some, Bool.not_true, Bool.not_false]; (try with_reducible rfl))); clear hK K)
            ((first | (refine held_skip (i := 34) (a' := ?hA106) (l' := ?hL106) rfl (by kernel_rfl) (by kernel_rfl) (by kernel_rfl) (fun _ _ _ h => h) (by rfl) (by assumption) ?ha106 ?hl106 ?hh106; (case ha106 => (simp only [Act.put, List.setIfInBounds_toArray, List.set_cons_zero, List.set_cons_succ, Option.isNone_none, Option.isNone_some, Bool.not_true, Bool.not_false]; (try with_reducible rfl))); (case hl106 => (simp only [Act.put, List.setIfInBounds_toArray, List.set_cons_zero, List.set_cons_succ, Option.isNone_none, Option.isNone_some, Bool.not_true, Bool.not_false]; (try with_reducible rfl)))) | (refine held_take (i := 34) (v := ?hV106) (a' := ?hA106) (l' := ?hL106) rfl (by kernel_rfl) (by kernel_rfl) (by kernel_rfl) (fun _ _ _ h => h) (by rfl) ?hv106 (by assumption) ?ha106 ?hl106 ?hh106; (case hv106 => (intro w hSw; (try dsimp only at hSw); go_simp; (try simp only [run_eql_slice_nil _ 27 _ _ _ _ Try.underlying27, Result.andThen_ok]); (try with_reducible rfl))); (case ha106 => (simp only [Act.put, List.setIfInBounds_toArray, List.set_cons_zero, List.set_cons_succ, Option.isNone_none, Option.isNone_some, Bool.not_true, Bool.not_false]; (try with_reducible rfl))); (case hl106 => (simp only [Act.put, List.setIfInBounds_toArray, List.set_cons_zero, List.set_cons_succ, Option.isNone_none, Option.isNone_some, Bool.not_true, Bool.not_false]; (try with_reducible rfl))))); (first | (refine held_skip (i := 35) (a' := ?hA107) (l' := ?hL107) rfl (by kernel_rfl) (by kernel_rfl) (by kernel_rfl) (fun _ _ _ h => h) (by rfl) (by assumption) ?ha107 ?hl107 ?hh107; (case ha107 => (simp only [Act.put, List.setIfInBounds_toArray, List.set_cons_zero, List.set_cons_succ, Option.isNone_none, Option.isNone_some, Bool.not_true, Bool.not_false]; (try with_reducible rfl))); (case hl107 => (simp only [Act.put, List.setIfInBounds_toArray, List.set_cons_zero, List.set_cons_succ, Option.isNone_none, Option.isNone_some, Bool.not_true, Bool.not_false]; (try with_reducible rfl)))) | (refine held_take (i := 35) (v := ?hV107) (a' := ?hA107) (l' := ?hL107) rfl (by kernel_rfl) (by kernel_rfl) (by kernel_rfl) (fun _ _ _ h => h) (by rfl) ?hv107 (by assumption) ?ha107 ?hl107 ?hh107; (case hv107 => (intro w hSw; (try dsimp only at hSw); go_simp; (try simp only [run_eql_slice_nil _ 27 _ _ _ _ Try.underlying27, Result.andThen_ok]); (try with_reducible rfl))); (case ha107 => (simp only [Act.put, List.setIfInBounds_toArray, List.set_cons_zero, List.set_cons_succ, Option.isNone_none, Option.isNone_some, Bool.not_true, Bool.not_false]; (try with_reducible rfl))); (case hl107 => (simp only [Act.put, List.setIfInBounds_toArray, List.set_cons_zero, List.set_cons_succ, Option.isNone_none, Option.isNone_some, Bool.not_true, Bool.not_false]; (try with_reducible rfl))))); (first | (refine held_skip (i := 36) (a' := ?hA108) (l' := ?hL108) rfl (by kernel_rfl) (by kernel_rfl) (by kernel_rfl) (fun _ _ _ h => h) (by rfl) (by assumption) ?ha108 ?hl108 ?hh108; (case ha108 => (simp only [Act.put, List.setIfInBounds_toArray, List.set_cons_zero, List.set_cons_succ, Option.isNone_none, Option.isNone_some, Bool.not_true, Bool.not_false]; (try with_reducible rfl))); (case hl108 => (simp only [Act.put, List.setIfInBounds_toArray, List.set_cons_zero, List.set_cons_succ, Option.isNone_none, Option.isNone_some, Bool.not_true, Bool.not_false]; (try with_reducible rfl)))) | (refine held_take (i := 36) (v := ?hV108) (a' := ?hA108) (l' := ?hL108) rfl (by kernel_rfl) (by kernel_rfl) (by kernel_rfl) (fun _ _ _ h => h) (by rfl) ?hv108 (by assumption) ?ha108 ?hl108 ?hh108; (case hv108 => (intro w hSw; (try dsimp only at hSw); go_simp; (try simp only [run_eql_slice_nil _ 27 _ _ _ _ Try.underlying27, Result.andThen_ok]); (try with_reducible rfl))); (case ha108 => (simp only [Act.put, List.setIfInBounds_toArray, List.set_cons_zero, List.set_cons_succ, Option.isNone_none, Option.isNone_some, Bool.not_true, Bool.not_false]; (try with_reducible rfl))); (case hl108 => (simp only [Act.put, List.setIfInBounds_toArray, List.set_cons_zero, List.set_cons_succ, Option.isNone_none, Option.isNone_some, Bool.not_true, Bool.not_false]; (try with_reducible rfl))))))
            refine wpAnyH_done (by kernel_rfl) ?_ _
            go_wp2_with fail
            go_roundw
            case rel => exact ⟨k + 1, by omega, by go_num, by rw [HA'.out], HF.out.trans hf7⟩
            case measure => simp [intOf]; omega
      · obtain rfl : k = m4 := by omega
        obtain ⟨v6, rfl⟩ : ∃ v6, v6 = wr := ⟨_, rfl⟩
        have HFw : Hid (Fr w v6) := HF5.out.trans HF.out
        have hpr := blk_go HP5.out HF.out
        (obtain ⟨x0, x1⟩ := box2_ hpr)
        have HXr := Lib.hid (HX5.out.go sSm HF.out)
        have HWD : Hid (wh = true → er = 0 ∧ out = cargo) := fun h => HTD.out (HWH.out.symm.trans h)
        clear hpr
        go_wp2_with fail
        (with_reducible refine (decode_eq _ _ _ wn wK _ _ _ XS HXr.out hn2m out er HD.out).mono ?_)
        rintro e v8 ⟨A11, n11, c11, rfl, ⟨hn11, hc11, hm11⟩, hs11, hf⟩
        have HF8 : Hid (Fr w v8) := HFw.out.trans hf
        have HS11 := Lib.hid hs11
        clear hs11 hf x0 x1
        cases wh with
        | false =>
          go_wp2_with fail
          go_ret
          exact ⟨rfl, HF8.out⟩
        | true =>
          obtain ⟨h1, h2⟩ := HWD.out rfl
          subst h1 h2
          go_wp2_with fail
          (with_reducible refine (equalBytes_lit _ _ _ _ _ _ _ out out true (by simp) HS11.out (H.out.go sByte HF8.out) (by unfold maxLen; omega)).mono ?_)
          rintro e v9 ⟨rfl, hf⟩
          have HF9 : Hid (Fr w v9) := HF8.out.trans hf
          clear hf
          go_wp2_with fail
          go_ret
          exact ⟨rfl, HF9.out⟩

set_option maxRecDepth 100000 in
set_option maxHeartbeats 1000000 in
theorem peelTrue_bad (w : World) (B K : Int) (wB : wfI B) (wK : wfI K) (A : Option Addr) (n c : Nat) (cargo : List UInt8) (h : Sl 1 eByte w (LT w.heap.size) A n cargo) (hnc : n ≤ c) (hcm : c ≤ maxLen) (A2 : Option Addr) (n2 c2 : Nat) (A3 : Option Addr) (n3 c3 : Nat) (hm2 : n2 * 8 ≤ lim) (hm3 : n3 * 8 ≤ lim) (hbad : (cutUp B K cargo).2 ≠ 0 ∨ 60 < n2 + n3) :
    Calls Try.prog 11 #[.agg #[.int .i64 B, .int .i64 K], .slice A n c, .slice A2 n2 c2, .slice A3 n3 c3] w fun e w' => e = .returned (.bool true) ∧ Fr w w' := by
  obtain ⟨X, ck, hk⟩ : ∃ X ck, cutUp B K cargo = (X, ck) := ⟨_, _, rfl⟩
  rw [hk] at hbad
  replace hbad : ck ≠ 0 ∨ 60 < n2 + n3 := hbad
  (have Hk := Lib.hid hk; clear hk)
  obtain ⟨T, hT⟩ : ∃ T : Nat, T = n2 + n3 := ⟨_, rfl⟩
  have hTw : wrap64 ((n2 : Int) + n3) = (T : Int) := by
    unfold lim at hm2 hm3
    rw [show ((n2 : Int) + n3) = (T : Int) from by omega]
    exact IntWalk.wrap64_in _ (by omega)
  rw [← hT] at hbad
  clear hm2 hm3 hT
  obtain ⟨b1, hb1⟩ : ∃ b1, b1 = (ck != 0) := ⟨_, rfl⟩
  obtain ⟨b3, hb3⟩ : ∃ b3, b3 = decide ((T : Int) > 60) := ⟨_, rfl⟩
  have hb : b1 = true ∨ (b1 = false ∧ b3 = true) := by
    subst hb1 hb3
    simp only [bne_iff_ne, bne_eq_false_iff_eq, decide_eq_true_eq, ne_eq]
    omega
  clear hbad
  (have H := Lib.hid h; clear h)
  rcases hb with h1 | ⟨h1, h3⟩
  all_goals
    rw [h1] at hb1
    try rw [h3] at hb3
    have e1 := hb1.symm
    have e3 := hb3.symm
    clear h1 hb1 hb3
    go_enter Try.func11, Try.ntmps11
    go_wp2_with fail
    refine (cutCut_any _ _ _ _ _ _ cargo (H.out.go sByte (by (repeat' (first | exact Below.refl _ _ | refine below_drewN ?_ _ | refine Below.drew ?_ | refine frA ?_ _)))) hnc hcm wB wK).mono ?_
    rw [Hk.out]
    rintro e v1 ⟨v, rfl, ho, hf⟩
    have HF1 : Hid (Fr w v1) := Fr.trans (by (repeat' (first | exact Below.refl _ _ | refine below_drewN ?_ _ | refine Below.drew ?_ | refine frA ?_ _))) hf
    clear hf ho
    go_wp2_with fail
    (with_reducible refine (peeled_any _).mono ?_)
    rintro e v2 ⟨rfl, hf⟩
    have HF2 : Hid (Fr w v2) := HF1.out.trans hf
    clear hf
    go_wp2_with fail
    (with_reducible refine (peeled_any _).mono ?_)
    rintro e v3 ⟨rfl, hf⟩
    have HF3 : Hid (Fr w v3) := HF2.out.trans hf
    clear hf
    go_wp2_with fail
    go_ret
    exact ⟨rfl, HF3.out⟩

theorem peelTrue_any (w : World) (B K : Int) (wB : wfI B) (wK : wfI K) (A : Option Addr) (n c : Nat) (cargo : List UInt8) (h : Sl 1 eByte w (LT w.heap.size) A n cargo) (_l : n * 1 ≤ lim) (hnc : n ≤ c) (hcm : c ≤ maxLen) (A2 : Option Addr) (n2 c2 : Nat) (ids : List Int) (h2 : Sl 1 eInt w (LT w.heap.size) A2 n2 ids) (_l2 : n2 * 8 ≤ lim) (hnc2 : n2 ≤ c2) (hcm2 : c2 ≤ maxLen) (A3 : Option Addr) (n3 c3 : Nat) (more : List Int) (h3 : Sl 1 eInt w (LT w.heap.size) A3 n3 more) (_l3 : n3 * 8 ≤ lim) (hnc3 : n3 ≤ c3) (hcm3 : c3 ≤ maxLen) :
    Calls Try.prog 11 #[.agg #[.int .i64 B, .int .i64 K], .slice A n c, .slice A2 n2 c2, .slice A3 n3 c3] w fun e w' => e = .returned (.bool true) ∧ Fr w w' := by
  by_cases hb : (cutUp B K cargo).2 ≠ 0 ∨ 60 < n2 + n3
  · exact peelTrue_bad w B K wB wK A n c cargo h hnc hcm A2 n2 c2 A3 n3 c3 _l2 _l3 hb
  · have h0 : (cutUp B K cargo).2 = 0 := by
      by_cases e : (cutUp B K cargo).2 = 0
      · exact e
      · exact absurd (.inl e) hb
    obtain ⟨hck, hl⟩ := cutUp_err h0
    rw [h.1] at hl
    obtain ⟨k, rfl, rfl, hck⟩ := plan_cases (B := B) (K := K) (n := n) (by rintro (e | e); exact e hck; exact e hl)
    exact peelTrue_good w k A n c cargo h hnc hcm A2 n2 c2 ids h2 hnc2 hcm2 A3 n3 c3 more h3 hnc3 hcm3 hck (by omega)
end Go.Proofs.Ytnfjghldcopaaaa
namespace Go.Proofs.Ytnfjghldcopaaaa.peelTrueLaw
open Go.ChangeShapes Go.WideShapes Go.ChangeAt Go.RowKit

set_option maxRecDepth 100000 in
theorem lifted (os : Os) (started : os.Started) (H : Type) (enc : TypeId × Value → H) :
    ReturnsInHanded {} Try.checked os 11 .any (Rows.peelTrueSpec.pre6 enc Try.prog Try.f11 Rows.peelTrueRow.domain false) (Rows.peelTrueSpec.post enc Try.prog Try.f11 false true false false) := by
  refine returnsInHanded_of_change_sized (C := Try.checked) own started (by kernel_rfl) Try.func11
    (ChangeSpec.witness6 (enc := enc) (C := Try.checked) false ⟨#[], #[.agg #[.int .i64 0, .int .i64 0], .slice none 0 0, .slice none 0 0, .slice none 0 0], []⟩ 8 (by kernel_rfl) (by kernel_rfl) (by kernel_rfl) (by kernel_rfl)) ?_
  intro W base args ds gs before hval0 hW hcnd hsz0 _
  have hval : ∀ (j : Nat) t v, Try.f11.params[j]? = some t → args[j]? = some v → Value.okWide Try.prog W .any base t v := hval0
  have hsz : (DataW.weightsEach Try.prog (Try.f11.params.toList ++ Rows.peelTrueSpec.plain.varTypes Try.prog) (ds ++ gs)).all (· ≤ reachBytes) = true := hsz0
  have hW' := hW
  obtain ⟨p, q, hA0, hV, rfl, hfz, hnd⟩ := hW
  have hA : DataW.TrodAll enc Try.prog W 0 (fun _ => true) true Try.f11.params.toList args.toList ds p := hA0
  rw [Try.params11] at hA hval hsz
  obtain ⟨v0, vs0, d0, ds0, p0, q0, hargs, rfl, rfl, h0, r0⟩ := trodAll_cons hA
  obtain ⟨v1, vs1, d1, ds1, p1, q1, rfl, rfl, rfl, h1, r1⟩ := trodAll_cons r0
  obtain ⟨v2, vs2, d2, ds2, p2, q2, rfl, rfl, rfl, h2, r2⟩ := trodAll_cons r1
  obtain ⟨v3, vs3, d3, ds3, p3, q3, rfl, rfl, rfl, h3, r3⟩ := trodAll_cons r2
  obtain ⟨rfl, rfl, rfl⟩ := trodAll_nil r3
  obtain rfl : args = #[v0, v1, v2, v3] := by cases args; simp_all
  obtain ⟨rfl, rfl⟩ := trodVars_none hV
  have k0 := h0
  have lt0 : ∀ x ∈ p0, x.block < W.heap.size := by obtain ⟨m, hm⟩ := k0; exact DataW.trod_lt m _ _ _ hm
  have s0 : ∀ n ∈ d0.weights Try.prog 47, n ≤ reachBytes := fun n hn => of_decide_eq_true (List.all_eq_true.1 hsz n (DataW.weights_mem_each (j := 0) rfl rfl n hn))
  obtain ⟨B0, K0, rfl, wB0, wK0⟩ := openPlan (hval 0 47 v0 rfl rfl) h0
  have k1 := h1
  have lt1 : ∀ x ∈ p1, x.block < W.heap.size := by obtain ⟨m, hm⟩ := k1; exact DataW.trod_lt m _ _ _ hm
  have s1 : ∀ n ∈ d1.weights Try.prog 26, n ≤ reachBytes := fun n hn => of_decide_eq_true (List.all_eq_true.1 hsz n (DataW.weights_mem_each (j := 1) rfl rfl n hn))
  obtain ⟨A1, n1, c1, rfl⟩ := okWide_slice Try.underlying26 (hval 1 26 v1 rfl rfl)
  obtain ⟨y1, hy1⟩ : ∃ y, eBlock W (LT W.heap.size) (fun j => [Value.slice A1 n1 c1][j]?) y := by obtain ⟨fuel, hf⟩ := h1; exact (openBytes _ _ _ _ _ _ hf s1).2
  obtain ⟨_, _, _, e1, ⟨l1, lc1, lm1⟩, hs1⟩ := hy1; simp at e1; obtain ⟨rfl, rfl, rfl⟩ := e1
  have k2 := h2
  have lt2 : ∀ x ∈ p2, x.block < W.heap.size := by obtain ⟨m, hm⟩ := k2; exact DataW.trod_lt m _ _ _ hm
  have s2 : ∀ n ∈ d2.weights Try.prog 48, n ≤ reachBytes := fun n hn => of_decide_eq_true (List.all_eq_true.1 hsz n (DataW.weights_mem_each (j := 2) rfl rfl n hn))
  obtain ⟨A2, n2, c2, rfl⟩ := okWide_slice Try.underlying48 (hval 2 48 v2 rfl rfl)
  obtain ⟨y2, hy2⟩ : ∃ y, (eSl 1 8 eInt) W (LT W.heap.size) (fun j => [Value.slice A2 n2 c2][j]?) y := by obtain ⟨fuel, hf⟩ := h2; exact (openInts _ _ _ _ _ _ hf s2).2
  obtain ⟨_, _, _, e2, ⟨l2, lc2, lm2⟩, hs2⟩ := hy2; simp at e2; obtain ⟨rfl, rfl, rfl⟩ := e2
  have k3 := h3
  have lt3 : ∀ x ∈ p3, x.block < W.heap.size := by obtain ⟨m, hm⟩ := k3; exact DataW.trod_lt m _ _ _ hm
  have s3 : ∀ n ∈ d3.weights Try.prog 48, n ≤ reachBytes := fun n hn => of_decide_eq_true (List.all_eq_true.1 hsz n (DataW.weights_mem_each (j := 3) rfl rfl n hn))
  obtain ⟨A3, n3, c3, rfl⟩ := okWide_slice Try.underlying48 (hval 3 48 v3 rfl rfl)
  obtain ⟨y3, hy3⟩ : ∃ y, (eSl 1 8 eInt) W (LT W.heap.size) (fun j => [Value.slice A3 n3 c3][j]?) y := by obtain ⟨fuel, hf⟩ := h3; exact (openInts _ _ _ _ _ _ hf s3).2
  obtain ⟨_, _, _, e3, ⟨l3, lc3, lm3⟩, hs3⟩ := hy3; simp at e3; obtain ⟨rfl, rfl, rfl⟩ := e3
  clear hA0 hval0
  refine (peelTrue_any W B0 K0 wB0 wK0 A1 n1 c1 y1 hs1 l1 lc1 lm1 A2 n2 c2 y2 hs2 l2 lc2 lm2 A3 n3 c3 y3 hs3 l3 lc3 lm3).mono fun e W' ⟨he, bel⟩ => ?_
  subst he
  exact ⟨_, rfl, _, _, _, [], _, [], hW', trodAll_mk1 (shut_bool Try.underlying4 _), (trodAll_cons_mk (Below.trod laidOut (by kernel_rfl) (of_decide_eq_true (by kernel_rfl)) k0 bel lt0) (trodAll_cons_mk (Below.trod laidOut (by kernel_rfl) (of_decide_eq_true (by kernel_rfl)) k1 bel lt1) (trodAll_cons_mk (Below.trod laidOut (by kernel_rfl) (of_decide_eq_true (by kernel_rfl)) k2 bel lt2) (trodAll_cons_mk (Below.trod laidOut (by kernel_rfl) (of_decide_eq_true (by kernel_rfl)) k3 bel lt3) trodAll_mk0)))), rfl, bel.frame _, fun h => by cases h⟩

/-- The statement: the law answers true for every input. -/
theorem proved : Rows.PeelTrueSaid :=
  OpenClaim.holds_of_wide 11 Try.f11 rfl rfl rfl rfl rfl rfl rfl ⟨rfl, rfl, rfl, rfl, rfl⟩ rfl rfl rfl rfl rfl (by kernel_rfl) Try.func11 (by kernel_rfl)
    (of_decide_eq_true (by kernel_rfl)) (by unfold Func.isWrapper; first | (rw [if_pos (by decide +kernel)]; kernel_rfl) | (rw [if_neg (by decide +kernel)]; exact ⟨rfl, rfl⟩))
    (fun os started H enc _ => lifted os started H enc)
#print axioms proved
end Go.Proofs.Ytnfjghldcopaaaa.peelTrueLaw
