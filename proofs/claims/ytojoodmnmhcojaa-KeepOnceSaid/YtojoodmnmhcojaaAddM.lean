/- What solve.Add holds in memory while it works; ContainsFunc at bytes. No condition. -/
import Derived.Test.YtojoodmnmhcojaaSysCopy
import Derived.Test.YtojoodmnmhcojaaInsR
import Derived.Test.YtojoodmnmhcojaaSysCheck
set_option linter.unusedSimpArgs false
set_option linter.unusedVariables false
namespace Go.Proofs.Ytojoodmnmhcojaa
open Go.RowKit
attribute [local irreducible] wpList

theorem redRow_snoc : ∀ (l : List Rw) (o r : Rw), redRow (l ++ [o]) r = if (redRow l r).bit o.fst.toNat then rowAdd (redRow l r) o else redRow l r
  | [], o, r => rfl
  | a :: l, o, r => by rw [List.cons_append, redRow, redRow_snoc l o, redRow]
theorem redRow_take {rows : List Rw} {r o : Rw} {j : Nat} (h : rows[j]? = some o) : redRow (rows.take (j + 1)) r = if (redRow (rows.take j) r).bit o.fst.toNat then rowAdd (redRow (rows.take j) r) o else redRow (rows.take j) r := by
  rw [take_snoc' h, redRow_snoc]
/-- The first i rows without the new one's block. -/
def outTo (k : Nat) (r : Rw) (rows : List Rw) (i : Nat) : List Rw := (rows.map (outOf k r)).take i ++ rows.drop i
theorem outTo_zero (k : Nat) (r : Rw) (rows : List Rw) : outTo k r rows 0 = rows := by simp [outTo]
theorem outTo_all (k : Nat) (r : Rw) (rows : List Rw) : outTo k r rows rows.length = rows.map (outOf k r) := by
  unfold outTo
  rw [List.drop_length, List.append_nil, List.take_of_length_le (by simp)]
theorem length_outTo {k : Nat} {r : Rw} {rows : List Rw} {i : Nat} (h : i ≤ rows.length) : (outTo k r rows i).length = rows.length := by simp [outTo]; omega
theorem outTo_get {k : Nat} {r o : Rw} {rows : List Rw} {i : Nat} (h : rows[i]? = some o) : (outTo k r rows i)[i]? = some o := by
  have hi := (List.getElem?_eq_some_iff.1 h).1
  unfold outTo
  rw [List.getElem?_append_right (by simp; omega), List.length_take, List.length_map, Nat.min_eq_left (by omega), Nat.sub_self, List.getElem?_drop]
  exact h
theorem outTo_succ {k : Nat} {r o : Rw} {rows : List Rw} {i : Nat} (h : rows[i]? = some o) : (outTo k r rows i).set i (outOf k r o) = outTo k r rows (i + 1) := by
  have hi := (List.getElem?_eq_some_iff.1 h).1
  have hm : (rows.map (outOf k r))[i]? = some (outOf k r o) := by rw [List.getElem?_map, h]; rfl
  have hl : ((rows.map (outOf k r)).take i).length = i := by simp; omega
  unfold outTo
  rw [take_snoc' hm, drop_cons h, List.set_append_right _ _ (by omega), hl, Nat.sub_self, List.set_cons_zero, List.append_assoc]
  rfl
theorem outTo_fit {B K k i : Nat} {r : Rw} {rows : List Rw} (hr : Fit B K r) (h : ∀ o ∈ rows, Fit B K o) : ∀ o ∈ outTo k r rows i, Fit B K o := by
  intro o ho
  rcases List.mem_append.1 ho with ho | ho
  · obtain ⟨x, hx, rfl⟩ := List.mem_map.1 (List.mem_of_mem_take ho)
    exact outOf_fit hr (h x hx)
  · exact h o (List.mem_of_mem_drop ho)
/-- Where the new one goes, as far as is known. -/
def atTo (k : Nat) (r : Rw) (rows : List Rw) (i : Nat) : Nat := if insAt k (rows.map (outOf k r)) < i then insAt k (rows.map (outOf k r)) else rows.length
theorem atTo_zero (k : Nat) (r : Rw) (rows : List Rw) : atTo k r rows 0 = rows.length := if_neg (by omega)
theorem insAt_le (k : Nat) (rows : List Rw) : insAt k rows ≤ rows.length := List.findIdx_le_length
theorem atTo_all (k : Nat) (r : Rw) (rows : List Rw) : atTo k r rows rows.length = insAt k (rows.map (outOf k r)) := by
  unfold atTo
  have := insAt_le k (rows.map (outOf k r))
  rw [List.length_map] at this
  split
  · rfl
  · omega
theorem atTo_le (k : Nat) (r : Rw) (rows : List Rw) (i : Nat) : atTo k r rows i ≤ rows.length := by
  unfold atTo
  have := insAt_le k (rows.map (outOf k r))
  rw [List.length_map] at this
  split <;> omega
theorem atTo_succ {k : Nat} {r o : Rw} {rows : List Rw} {i : Nat} (h : rows[i]? = some o) : atTo k r rows (i + 1) = if atTo k r rows i = rows.length ∧ (k : Int) < (outOf k r o).fst then i else atTo k r rows i := by
  have hi := (List.getElem?_eq_some_iff.1 h).1
  have hm : (rows.map (outOf k r))[i]? = some (outOf k r o) := by rw [List.getElem?_map, h]; rfl
  obtain ⟨L, hL⟩ : ∃ L, L = rows.map (outOf k r) := ⟨_, rfl⟩
  have hlen : L.length = rows.length := by rw [hL, List.length_map]
  unfold atTo
  rw [← hL] at hm ⊢
  have hle := insAt_le k L
  have hil : i < L.length := by omega
  have hge : L[i] = outOf k r o := (List.getElem?_eq_some_iff.1 hm).2
  by_cases h1 : insAt k L < i
  · rw [if_pos (by omega), if_pos h1, if_neg (by omega)]
  · rw [if_neg h1]
    by_cases h2 : (k : Int) < (outOf k r o).fst
    · have : insAt k L = i := by
        unfold insAt at h1 ⊢
        have h3 : L.findIdx (fun o => decide ((k : Int) < o.fst)) ≤ i := by
          rcases Nat.lt_or_ge i (L.findIdx (fun o => decide ((k : Int) < o.fst))) with h4 | h4
          · have := List.not_of_lt_findIdx h4
            rw [hge] at this
            simp at this
            omega
          · exact h4
        omega
      rw [if_pos (by omega), if_pos ⟨rfl, h2⟩, this]
    · have : insAt k L ≠ i := by
        intro e
        unfold insAt at e
        have h3 : L.findIdx (fun o => decide ((k : Int) < o.fst)) < L.length := by omega
        have := List.findIdx_getElem (w := h3)
        simp only [e, decide_eq_true_eq] at this
        rw [hge] at this
        exact h2 this
      rw [if_neg (by omega), if_neg (by omega)]

/-- A system in memory of the call's own, empty or not. -/
structure SysO (w : World) (own : Nat → Option Nat) (base top : Nat) (A : Option Addr) (c : Nat) (rows : List Rw) : Prop where
  nil : rows = [] → Own 2 eRw w base 106 (.slice A 0 c) ([] : List Rw)
  pos : 0 < rows.length → ∃ g, A = some ⟨g, 0, none⟩ ∧ SysM w own base g c rows
  top : (∀ a, A = some a → a.block < top) ∧ (∀ b i, own b = some i → b < top) ∧ top ≤ w.heap.size
  low : ∀ b i, own b = some i → base ≤ b
theorem SysO.chg {w w' : World} {own : Nat → Option Nat} {base top : Nat} {A : Option Addr} {c : Nat} {rows : List Rw} {S : Nat → Prop} (h : SysO w own base top A c rows) (k : Chg S w w') (hS : ∀ b, S b → top ≤ b ∨ b < base) : SysO w' own base top A c rows := by
  refine ⟨fun e => ?_, fun e => ?_, ⟨h.top.1, h.top.2.1, Nat.le_trans h.top.2.2 k.size⟩, h.low⟩
  · have h0 := h.nil e
    obtain ⟨cs, ho, _⟩ := h0
    refine ⟨cs, ⟨ho.1, ?_⟩, fun i x hx => by simp at hx⟩
    rcases ho.2 with h0 | ⟨g, cap, cur, h1, h2, h3, h4⟩
    · exact .inl h0
    · injection h1 with h1 h5 h6
      refine .inr ⟨g, cap, cur, by rw [h1, h6]; rfl, h2, k.blk h3 (fun e => ?_), h4⟩
      have := h.top.1 _ h1
      have h8 : g < top := this
      rcases hS g e with h7 | h7 <;> omega
  · obtain ⟨g, rfl, hM⟩ := h.pos e
    refine ⟨g, rfl, hM.chg k (fun e => ?_) fun b i hb e => ?_⟩
    · have := h.top.1 _ rfl
      have h8 : g < top := this
      have := hM.hbase
      rcases hS g e with h7 | h7 <;> omega
    · have := h.top.2.1 b i hb
      have := (hM.hown b i hb).1
      rcases hS b e with h7 | h7 <;> omega
theorem SysO.toOwn {w : World} {own : Nat → Option Nat} {base top : Nat} {A : Option Addr} {c B K : Nat} {rows : List Rw} (h : SysO w own base top A c rows) (hB : B ≤ 24) (hK : K ≤ 16) (hf : ∀ r ∈ rows, Fit B K r) : Own 2 (eHi base eRw) w base 106 (.slice A rows.length c) rows := by
  rcases Nat.eq_zero_or_pos rows.length with h0 | h0
  · obtain rfl := List.eq_nil_of_length_eq_zero h0
    exact (h.nil rfl).nilChg (Chg.refl (fun _ => False) w) (Nat.le_refl _) fun _ _ _ h => h
  · obtain ⟨g, rfl, hM⟩ := h.pos h0
    exact hM.toOwn fun r hr => by have := hf r hr; rw [this.1, this.2]; exact ⟨hB, hK⟩
/-- One row turned, in its own blocks. -/
theorem SysM.set {w w' : World} {own : Nat → Option Nat} {base g cap i : Nat} {rows : List Rw} {x : Rw} (h : SysM w own base g cap rows) (k : Chg (fun b => own b = some i) w w') (hx : RowM w' own g i x) : SysM w' own base g cap (rows.set i x) := by
  obtain ⟨cs, rest, h1, h2, h3⟩ := h.hblk
  have hg : ¬ own g = some i := fun e => (h.hown g i e).2.1 rfl
  refine ⟨⟨cs, rest, k.blk h1 hg, by rw [List.length_set]; exact h2, h3⟩, by rw [List.length_set]; exact h.hcap, h.hbase, fun b j e => ⟨(h.hown b j e).1, (h.hown b j e).2.1, Nat.lt_of_lt_of_le (h.hown b j e).2.2 k.size⟩, fun j y hy => ?_⟩
  by_cases e : j = i
  · subst e
    have hj := (List.getElem?_eq_some_iff.1 hy).1
    rw [List.length_set] at hj
    rw [List.getElem?_set_self hj] at hy
    injection hy with hy
    rw [← hy]; exact hx
  · rw [List.getElem?_set_ne (fun h => e h.symm)] at hy
    exact (h.hrow j y hy).chg k hg fun b hb hb' => e (by rw [hb] at hb'; injection hb')
theorem SysO.set {w w' : World} {own : Nat → Option Nat} {base top g c i : Nat} {rows : List Rw} {x : Rw} (h : SysO w own base top (some ⟨g, 0, none⟩) c rows) (hi : i < rows.length) (k : Chg (fun b => own b = some i) w w') (hx : RowM w' own g i x) : SysO w' own base top (some ⟨g, 0, none⟩) c (rows.set i x) := by
  obtain ⟨g', e, hM⟩ := h.pos (by omega)
  injection e with e
  injection e with e
  subst e
  refine ⟨fun e => ?_, fun _ => ⟨g, rfl, hM.set k hx⟩, ⟨h.top.1, h.top.2.1, Nat.le_trans h.top.2.2 k.size⟩, h.low⟩
  have h0 := congrArg List.length e
  rw [List.length_set, List.length_nil] at h0
  omega
/-- solve.Copy at any right system. -/
theorem sysCopy_any (w : World) (B K : Nat) (A : Option Addr) (n c : Nat) (rows : List Rw) (h : Sl 2 eRw w (LT w.heap.size) A n rows) (hn24 : n ≤ 24) (hB : 1 ≤ B ∧ B ≤ 24) (hK : 1 ≤ K ∧ K ≤ 16) (hfit : ∀ r ∈ rows, Fit B K r) :
    Calls Try.prog 67 #[.agg #[.int .i64 B, .int .i64 K, .slice A n c]] w fun e w' => ∃ own A' c', e = .returned (.agg #[.int .i64 B, .int .i64 K, .slice A' n c']) ∧ (n ≤ c' ∧ c' ≤ maxLen) ∧ SysO w' own w.heap.size w'.heap.size A' c' rows ∧ Fr w w' := by
  rcases Nat.eq_zero_or_pos n with h0 | h0
  · subst h0
    obtain rfl := List.eq_nil_of_length_eq_zero h.1
    refine (sysCopy_nil w B K A c).mono ?_
    rintro e w' ⟨A', c', rfl, ho, hf⟩
    obtain ⟨A2, c2, e2, hc, hs⟩ := ho.slC sRw (by decide)
    injection e2 with e2 e3 e4
    subst e2 e4
    refine ⟨fun _ => none, A', c', rfl, hc, ⟨fun _ => ho, fun h => absurd h (by simp), ⟨fun a ha => ?_, (fun b i e => by cases e), Nat.le_refl _⟩, (fun b i e => by cases e)⟩, hf⟩
    obtain ⟨cs, ho, _⟩ := ho
    subst ha
    exact (ho.lt a.block rfl).2
  · refine (sysCopy_pos w B K A n c rows h h0 hn24 hB hK hfit).mono ?_
    rintro e w' ⟨own, g, cap, rfl, hf, hM⟩
    have hg : g < w'.heap.size := by obtain ⟨cs, rest, h1, _⟩ := hM.hblk; exact (Array.getElem?_eq_some_iff.1 h1).1
    have hl := h.1
    exact ⟨own, _, cap, rfl, by rw [← hl]; exact hM.hcap, ⟨fun e => by rw [e] at hl; simp at hl; omega, fun _ => ⟨g, rfl, hM⟩, ⟨fun a ha => by injection ha with ha; rw [← ha]; exact hg, fun b i e => (hM.hown b i e).2.2, Nat.le_refl _⟩, fun b i e => (hM.hown b i e).1⟩, hf⟩

/-- A function value that tells whether a byte is not nought. -/
theorem notZero_any (w : World) (b : UInt8) : Calls Try.prog 72 #[.int .u8 (b.toNat : Int)] w fun e w' => e = .returned (.bool (!(b == 0))) ∧ w = w' := by
  have E : Hid ((!(b == 0)) = !(((b.toNat : Nat) : Int) == 0)) := by
    rw [Hid, Bool.eq_iff_iff]; simp [← UInt8.toNat_inj]
  go_enter Try.func72, Try.ntmps72
  go_wp2_with fail
  go_ret
  exact ⟨retB (by rw [E.out]; first | rfl | simp [bne]), rfl⟩
set_option maxHeartbeats 400000 in
theorem indexFuncByte_any (w : World) (f : FuncId) (hcf : ∀ (args : Array Value) (W : World), (callFunc f args).run Try.prog W = .ok (.enter f args) W) (p : UInt8 → Bool) (hfn : ∀ (W : World) (b : UInt8), Calls Try.prog f #[.int .u8 (b.toNat : Int)] W fun e w' => e = .returned (.bool (p b)) ∧ W = w') (S : Nat → Prop) (A : Option Addr) (n c : Nat) (xs : List UInt8) (h : Sl 1 eByte w S A n xs) (hm : n ≤ maxLen) :
    Calls Try.prog 80 #[.slice A n c, .func (.func f) #[] #[]] w fun e w' => e = .returned (.int .i64 (idxF true (xs.map p))) ∧ w = w' := by
  unfold maxLen at hm
  have H := Lib.hid h
  have HFN := Lib.hid hfn
  clear h hfn
  go_enter Try.func80, Try.ntmps80
  go_wp2_with fail
  go_loop [8] (fun i => ∃ k : Nat, k ≤ n ∧ i = .int .i64 k ∧ Hid (idxF true (xs.map p) = idxAux true ((xs.map p).drop k) k)) (fun i => n - (intOf i).toNat)
  case atStart => exact ⟨0, Nat.zero_le _, rfl, rfl⟩
  case round =>
    obtain ⟨k, hk, rfl, HS⟩ := hrel
    by_cases hlt : k < n
    · obtain ⟨ad, rfl, hE⟩ := H.out.els (by omega)
      obtain ⟨b, hb, hc⟩ := hE.byte hlt
      have hpb : (xs.map p)[k]? = some (p b) := by rw [List.getElem?_map, hb]; rfl
      have HS' : Hid (idxF true (xs.map p) = if true = p b then (k : Int) else idxAux true ((xs.map p).drop (k + 1)) (k + 1)) := by rw [Hid, HS.out, idxAux_drop hpb]
      obtain ⟨q, hq⟩ : ∃ q, q = p b := ⟨_, rfl⟩
      have HC := Lib.hid (HFN.out · b)
      rw [← hq] at HS' HC
      clear HS hb hE hpb hq
      go_wp2_with fail
      (with_reducible refine (HC.out _).mono ?_)
      rintro e w' ⟨rfl, rfl⟩
      cases q with
      | true =>
        have HR : Hid (idxF true (xs.map p) = (k : Int)) := by rw [Hid, HS'.out, if_pos rfl]
        clear HS'
        go_wp2_with fail
        go_ret
        exact ⟨retI HR.out.symm, rfl⟩
      | false =>
        have HR : Hid (idxF true (xs.map p) = idxAux true ((xs.map p).drop (k + 1)) (k + 1)) := by rw [Hid, HS'.out, if_neg (by simp)]
        clear HS'
        go_wp2_with fail
        go_round
        case rel => exact ⟨k + 1, by omega, by go_num, HR⟩
        case measure => simp [intOf]; omega
    · have HF : Hid (idxF true (xs.map p) = -1) := by
        have h1 := H.out.1
        rw [Hid, HS.out, List.drop_eq_nil_of_le (by simp; omega)]; rfl
      go_wp2_with fail
      go_ret
      exact ⟨retI HF.out.symm, rfl⟩
theorem containsNot_any (w : World) (S : Nat → Prop) (A : Option Addr) (n c : Nat) (xs : List UInt8) (h : Sl 1 eByte w S A n xs) (hm : n ≤ maxLen) :
    Calls Try.prog 71 #[.slice A n c, .func (.func 72) #[] #[]] w fun e w' => e = .returned (.bool (!(xs.all fun b => b == 0))) ∧ w = w' := by
  have E : Hid (decide (0 ≤ idxF true (xs.map fun b => !(b == 0))) = !(xs.all fun b => b == 0)) := by
    rw [Hid, idxF_ge, Bool.eq_iff_iff]
    simp
  have H := Lib.hid h
  clear h
  go_enter Try.func71, Try.ntmps71
  go_wp2_with fail
  (with_reducible refine (indexFuncByte_any _ 72 (fun _ _ => by kernel_rfl) (fun b => !(b == 0)) (fun W b => notZero_any W b) S _ _ _ xs H.out hm).mono ?_)
  rintro e w' ⟨rfl, rfl⟩
  go_wp2_with fail
  go_ret
  exact ⟨retB E.out, rfl⟩
end Go.Proofs.Ytojoodmnmhcojaa
