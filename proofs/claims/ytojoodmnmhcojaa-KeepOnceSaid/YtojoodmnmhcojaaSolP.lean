/- Plain laws of systems of rows: what a row that is added makes of them. No condition; no program in sight. -/
import Derived.Test.YtojoodmnmhcojaaRow
import Derived.Test.YtojoodmnmhcojaaGf
import Derived.Test.YtojoodmnmhcojaaCodeP
set_option linter.unusedSimpArgs false
set_option linter.unusedVariables false
namespace Go.Proofs.Ytojoodmnmhcojaa

def bx (a b : List Bool) : List Bool := List.zipWith (fun x y => x != y) a b
def rowAdd (a b : Rw) : Rw := ⟨bx a.has b.has, zx a.data b.data⟩
def Rw.bit (r : Rw) (k : Nat) : Bool := r.has.getD k false
/-- Lengths are right. -/
def Fit (B K : Nat) (r : Rw) : Prop := r.has.length = B ∧ r.data.length = K
def vc (r : Rw) : Vc := ⟨fun i => r.has.getD i false, fun i => r.data.getD i 0⟩

theorem Fit.add {B K : Nat} {a b : Rw} (h : Fit B K a) (k : Fit B K b) : Fit B K (rowAdd a b) := ⟨by simp [rowAdd, bx, h.1, k.1], by simp [rowAdd, zx, h.2, k.2]⟩
theorem bx_getD {a b : List Bool} (h : a.length = b.length) (i : Nat) : (bx a b).getD i false = (a.getD i false ^^ b.getD i false) := by
  unfold bx
  simp only [List.getD_eq_getElem?_getD, List.getElem?_zipWith]
  by_cases hi : i < a.length
  · rw [List.getElem?_eq_getElem hi, List.getElem?_eq_getElem (by omega)]; simp
  · rw [List.getElem?_eq_none (by omega), List.getElem?_eq_none (by omega)]; rfl
theorem zx_getD {a b : List UInt8} (h : a.length = b.length) (i : Nat) : (zx a b).getD i 0 = (a.getD i 0 ^^^ b.getD i 0) := by
  unfold zx
  simp only [List.getD_eq_getElem?_getD, List.getElem?_zipWith]
  by_cases hi : i < a.length
  · rw [List.getElem?_eq_getElem hi, List.getElem?_eq_getElem (by omega)]; rfl
  · rw [List.getElem?_eq_none (by omega), List.getElem?_eq_none (by omega)]; rfl
theorem vc_add {B K : Nat} {a b : Rw} (h : Fit B K a) (k : Fit B K b) : vc (rowAdd a b) = vc a + vc b :=
  Vc.ext' (fun i => bx_getD (h.1.trans k.1.symm) i) (fun i => zx_getD (h.2.trans k.2.symm) i)
theorem list_ext_getD {α : Type} {a b : List α} {d : α} (hl : a.length = b.length) (h : ∀ i, a.getD i d = b.getD i d) : a = b := by
  apply List.ext_getElem hl
  intro i h1 h2
  have := h i
  simpa [List.getD_eq_getElem?_getD, List.getElem?_eq_getElem h1, List.getElem?_eq_getElem h2] using this
theorem vc_inj {B K : Nat} {a b : Rw} (h : Fit B K a) (k : Fit B K b) (e : vc a = vc b) : a = b := by
  cases a; cases b
  congr
  · exact list_ext_getD (h.1.trans k.1.symm) fun i => congrFun (congrArg Vc.h e) i
  · exact list_ext_getD (h.2.trans k.2.symm) fun i => congrFun (congrArg Vc.d e) i

theorem fst_lead {r : Rw} {k : Nat} : r.fst = (k : Int) ↔ Lead (vc r) k := by
  have bit : ∀ i, (vc r).h i = true ↔ r.has[i]? = some true := fun i => by
    show r.has.getD i false = true ↔ _
    rw [List.getD_eq_getElem?_getD]
    cases r.has[i]? <;> simp
  have spec : ∀ j : Nat, r.has[j]? = some true → (∀ i, i < j → r.has[i]? ≠ some true) → Lead (vc r) j := fun j h2 h3 =>
    ⟨(bit j).2 h2, fun i hi => by
      cases e : (vc r).h i with
      | false => rfl
      | true => exact absurd ((bit i).1 e) (h3 i hi)⟩
  constructor
  · intro h
    rcases idxF_spec true r.has with ⟨h1, _⟩ | ⟨j, h1, h2, h3⟩
    · unfold Rw.fst at h; omega
    · unfold Rw.fst at h
      obtain rfl : j = k := by omega
      exact spec j h2 h3
  · intro h
    rcases idxF_spec true r.has with ⟨h1, h2⟩ | ⟨j, h1, h2, h3⟩
    · exact absurd (List.mem_of_getElem? ((bit k).1 h.1)) h2
    · unfold Rw.fst
      rw [h1, (spec j h2 h3).uniq h]
theorem fst_none {r : Rw} : r.fst < 0 ↔ ∀ i, (vc r).h i = false := by
  constructor
  · intro h i
    cases e : (vc r).h i with
    | false => rfl
    | true =>
      obtain ⟨j, _, hj⟩ := lead_of e
      have := fst_lead.2 hj
      omega
  · intro h
    rcases (by omega : r.fst < 0 ∨ 0 ≤ r.fst) with h1 | h1
    · exact h1
    · obtain ⟨k, hk⟩ := Int.eq_ofNat_of_zero_le h1
      have := (fst_lead.1 hk).1
      rw [h k] at this; cases this
theorem lead_lt {B K : Nat} {r : Rw} (h : Fit B K r) {k : Nat} (hk : (vc r).h k = true) : k < B := by
  rcases Nat.lt_or_ge k B with h1 | h1
  · exact h1
  · have : (vc r).h k = false := by
      show r.has.getD k false = false
      rw [List.getD_eq_getElem?_getD, List.getElem?_eq_none (by rw [h.1]; exact h1)]; rfl
    rw [this] at hk; cases hk

def pl (rows : List Rw) : List (Nat × Vc) := rows.map fun r => (r.fst.toNat, vc r)
/-- Rows of a right system. -/
structure Sys (B K : Nat) (rows : List Rw) : Prop where
  fit : ∀ r ∈ rows, Fit B K r
  fst : ∀ r ∈ rows, 0 ≤ r.fst
  ech : Ech (pl rows)
theorem Sys.leads {B K : Nat} {rows : List Rw} (h : Sys B K rows) {r : Rw} (hr : r ∈ rows) : ∃ k : Nat, r.fst = (k : Int) ∧ Lead (vc r) k ∧ k < B := by
  obtain ⟨k, hk⟩ := Int.eq_ofNat_of_zero_le (h.fst r hr)
  have := fst_lead.1 hk
  exact ⟨k, hk, this, lead_lt (h.fit r hr) this.1⟩
theorem Sys.tail {B K : Nat} {r : Rw} {rows : List Rw} (h : Sys B K (r :: rows)) : Sys B K rows :=
  ⟨fun x hx => h.fit x (List.mem_cons_of_mem _ hx), fun x hx => h.fst x (List.mem_cons_of_mem _ hx), h.ech.tail⟩
theorem lastOf_pos {rows : List Rw} {i : Nat} {r : Rw} (h : rows[i]? = some r) : lastOf rows (i + 1) = r.fst := lastOf_succ h

theorem rowsOk_sys {B K : Nat} {rows : List Rw} (h : RowsOk B K rows) : Sys B K rows := by
  have hlt : ∀ (d i : Nat) (a b : Rw), rows[i]? = some a → rows[i + 1 + d]? = some b → a.fst < b.fst := by
    intro d
    induction d with
    | zero =>
      intro i a b ha hb
      have := (h _ b hb).up
      rwa [Nat.add_zero, lastOf_succ ha] at this
    | succ d ih =>
      intro i a b ha hb
      have hl := (List.getElem?_eq_some_iff.1 hb).1
      have hc : rows[i + 1 + d]? = some rows[i + 1 + d] := List.getElem?_eq_getElem (by omega)
      have h1 := ih i a _ ha hc
      have h2 := (h _ b hb).up
      rw [show i + 1 + (d + 1) = (i + 1 + d) + 1 from rfl, lastOf_succ hc] at h2
      omega
  have hfit : ∀ r ∈ rows, Fit B K r := fun r hr => by
    obtain ⟨i, hi⟩ := List.mem_iff_getElem?.1 hr
    have := h i r hi
    exact ⟨by have := this.has; omega, by have := this.data; omega⟩
  have hfst : ∀ r ∈ rows, 0 ≤ r.fst := fun r hr => by
    obtain ⟨i, hi⟩ := List.mem_iff_getElem?.1 hr
    have := (h i r hi).up
    have := lastOf_ge rows i
    omega
  refine ⟨hfit, hfst, ?_, ?_⟩
  · unfold pl
    rw [List.pairwise_map, List.pairwise_iff_getElem]
    intro i j hi hj hij
    have ha := List.getElem?_eq_getElem hi
    have hb := List.getElem?_eq_getElem hj
    have h1 := hlt (j - (i + 1)) i _ _ ha (by rw [show i + 1 + (j - (i + 1)) = j by omega]; exact hb)
    have h2 := hfst _ (List.getElem_mem hi)
    refine ⟨by simp only []; omega, ?_⟩
    exact (h j _ hb).alone i _ (by omega) ha
  · intro a ha
    obtain ⟨r, hr, rfl⟩ := List.mem_map.1 ha
    exact fst_lead.1 (by have := hfst r hr; simp only []; omega)
theorem sys_rowsOk {B K : Nat} {rows : List Rw} (h : Sys B K rows) : RowsOk B K rows := by
  intro i r hr
  have hm := List.mem_of_getElem? hr
  have hp := h.ech.up
  unfold pl at hp
  rw [List.pairwise_map, List.pairwise_iff_getElem] at hp
  have hi := (List.getElem?_eq_some_iff.1 hr).1
  have er : rows[i] = r := (List.getElem?_eq_some_iff.1 hr).2
  refine ⟨by rw [(h.fit r hm).1], by rw [(h.fit r hm).2], ?_, fun j o hj ho => ?_⟩
  · cases i with
    | zero => have := h.fst r hm; simp only [lastOf]; omega
    | succ i =>
      rw [lastOf_succ (List.getElem?_eq_getElem (by omega : i < rows.length))]
      have := (hp i (i + 1) (by omega) hi (by omega)).1
      have h1 := h.fst _ (List.getElem_mem (by omega : i < rows.length))
      rw [er] at this
      simp only [] at this
      have h2 := h.fst r hm
      omega
  · have ho' := List.mem_of_getElem? ho
    have hjl := (List.getElem?_eq_some_iff.1 ho).1
    have eo : rows[j] = o := (List.getElem?_eq_some_iff.1 ho).2
    have hne : (o.fst.toNat, vc o).1 ≠ (r.fst.toNat, vc r).1 := by
      rcases Nat.lt_or_ge j i with h1 | h1
      · have := (hp j i hjl hi h1).1; rw [er, eo] at this; exact Nat.ne_of_lt this
      · have := (hp i j hi hjl (by omega)).1; rw [er, eo] at this; exact (Nat.ne_of_lt this).symm
    exact h.ech.apart (List.mem_map.2 ⟨o, ho', rfl⟩) (List.mem_map.2 ⟨r, hm, rfl⟩) hne
theorem Sys.card {B K : Nat} {rows : List Rw} (h : Sys B K rows) : rows.length ≤ B := by
  have hn : ((pl rows).map (·.1)).Nodup := by
    rw [List.Nodup, List.pairwise_map]
    exact h.ech.up.imp fun x => Nat.ne_of_lt x.1
  have := nodup_le hn (m := List.range B) fun k hk => by
    obtain ⟨a, ha, rfl⟩ := List.mem_map.1 hk
    obtain ⟨r, hr, rfl⟩ := List.mem_map.1 ha
    obtain ⟨k, hk, _, hlt⟩ := h.leads hr
    rw [List.mem_range]
    simp only []
    omega
  simpa [pl] using this
theorem sysCheck_of {B K : Nat} {rows : List Rw} (hB : 1 ≤ B ∧ B ≤ 24) (hK : 1 ≤ K ∧ K ≤ 16) (h : Sys B K rows) : sysCheck B K rows = 0 := by
  have := h.card
  exact sysCheck_good (by omega) (by omega) (sys_rowsOk h)

/-- All first blocks of the rows out of a row. -/
def redRow : List Rw → Rw → Rw
  | [], r => r
  | o :: rows, r => redRow rows (if r.bit o.fst.toNat then rowAdd r o else r)
def insAt (k : Nat) (rows : List Rw) : Nat := rows.findIdx fun o => decide ((k : Int) < o.fst)
def outOf (k : Nat) (r o : Rw) : Rw := if o.bit k then rowAdd o r else o
def insRow (rows : List Rw) (k : Nat) (r : Rw) : List Rw := ((rows.map (outOf k r)).take (insAt k (rows.map (outOf k r)))) ++ r :: (rows.map (outOf k r)).drop (insAt k (rows.map (outOf k r)))
/-- What solve.Add makes of a right system's rows. -/
def addRow (rows : List Rw) (r : Rw) : List Rw × Bool × Int :=
  if (redRow rows r).fst < 0 then (if (redRow rows r).data.all (fun c => c == 0) then (rows, false, 0) else ([], false, 9))
  else (insRow rows (redRow rows r).fst.toNat (redRow rows r), true, 0)
structure Sy where
  blocks : Int
  block : Int
  rows : List Rw
deriving DecidableEq
def Sy.none : Sy := ⟨0, 0, []⟩
def sysAdd (s : Sy) (r : Rw) : Sy × Bool × Int :=
  if sysCheck s.blocks s.block s.rows ≠ 0 then (Sy.none, false, sysCheck s.blocks s.block s.rows)
  else if (r.has.length : Int) ≠ s.blocks ∨ (r.data.length : Int) ≠ s.block then (Sy.none, false, 4)
  else if (addRow s.rows r).2.2 = 0 then (⟨s.blocks, s.block, (addRow s.rows r).1⟩, (addRow s.rows r).2.1, 0) else (Sy.none, false, (addRow s.rows r).2.2)

theorem redRow_fit {B K : Nat} : ∀ {rows : List Rw} {r : Rw}, (∀ o ∈ rows, Fit B K o) → Fit B K r → Fit B K (redRow rows r)
  | [], r, _, h => h
  | o :: rows, r, hf, h => by
    rw [redRow]
    refine redRow_fit (fun x hx => hf x (List.mem_cons_of_mem _ hx)) ?_
    split
    · exact h.add (hf o (by simp))
    · exact h
theorem redRow_vc {B K : Nat} : ∀ {rows : List Rw} {r : Rw}, Sys B K rows → Fit B K r → vc (redRow rows r) = vc r + pj (pl rows) (vc r)
  | [], r, _, h => (Vc.add_zero _).symm
  | o :: rows, r, hs, h => by
    have ho := hs.fit o (by simp)
    rw [redRow]
    have hp0 : pj (pl rows) (vc o) = Vc.zero := pj_none fun a ha => ((List.pairwise_cons.1 hs.ech.up).1 a ha).2
    have hb : r.bit o.fst.toNat = (vc r).h o.fst.toNat := rfl
    rw [show pl (o :: rows) = (o.fst.toNat, vc o) :: pl rows from rfl, pj_cons, hb]
    by_cases e : (vc r).h o.fst.toNat = true
    · rw [if_pos e, redRow_vc hs.tail (h.add ho), vc_add h ho, pj_add, hp0, Vc.add_zero, if_pos e, Vc.assoc]
    · rw [if_neg e, if_neg e, redRow_vc hs.tail h]
theorem pj_at {v : Vc} : ∀ {ps : List (Nat × Vc)}, Ech ps → ∀ a ∈ ps, (pj ps v).h a.1 = v.h a.1
  | [], _, _, h => by cases h
  | c :: ps, hE, a, ha => by
    have hup := (List.pairwise_cons.1 hE.up).1
    rw [pj_cons]
    rcases List.mem_cons.1 ha with e | ha
    · subst e
      have hl : (pj ps v).h a.1 = false := pj_low fun b hb => (hE.lead b (List.mem_cons_of_mem _ hb)).2 _ (hup b hb).1
      split
      · rename_i e; rw [Vc.add_h, (hE.lead a (by simp)).1, hl, e]; rfl
      · rename_i e; rw [hl]; simpa using e
    · have ih := pj_at (v := v) hE.tail a ha
      split
      · rw [Vc.add_h, (hup a ha).2, ih, Bool.false_xor]
      · exact ih
/-- A row with no first block of another one's. -/
def Clean (rows : List Rw) (r : Rw) : Prop := ∀ o ∈ rows, (vc r).h o.fst.toNat = false
theorem redRow_clean {B K : Nat} {rows : List Rw} {r : Rw} (hs : Sys B K rows) (h : Fit B K r) : Clean rows (redRow rows r) := by
  intro o ho
  rw [redRow_vc hs h, Vc.add_h]
  have := pj_at (v := vc r) hs.ech _ (List.mem_map.2 ⟨o, ho, rfl⟩)
  simp only [] at this
  rw [this]; simp

/-- The rows, and one more: what they span. -/
def With (rows : List Rw) (r : Rw) (g : Vc) : Prop := Of (pl rows) g ∨ g = vc r
theorem of_mem {rows : List Rw} {r : Rw} (h : r ∈ rows) : Of (pl rows) (vc r) := ⟨_, List.mem_map.2 ⟨r, h, rfl⟩, rfl⟩
theorem red_span {B K : Nat} {rows : List Rw} {r : Rw} (hs : Sys B K rows) (h : Fit B K r) (v : Vc) : Span (With rows r) v ↔ Span (With rows (redRow rows r)) v := by
  have hv := redRow_vc hs h
  constructor
  · refine Span.le fun g hg => ?_
    rcases hg with hg | rfl
    · exact .of (.inl hg)
    · rw [show vc r = vc (redRow rows r) + pj (pl rows) (vc r) by rw [hv, Vc.assoc, Vc.self, Vc.add_zero]]
      exact .add (.inr rfl) ((span_pj _ _).mono fun g h => .inl h)
  · refine Span.le fun g hg => ?_
    rcases hg with hg | rfl
    · exact .of (.inl hg)
    · rw [hv]
      exact .add (.inr rfl) ((span_pj _ _).mono fun g h => .inl h)
theorem outOf_fit {B K k : Nat} {r o : Rw} (h : Fit B K r) (ho : Fit B K o) : Fit B K (outOf k r o) := by
  unfold outOf; split
  · exact ho.add h
  · exact ho
theorem outOf_vc {B K k : Nat} {r o : Rw} (h : Fit B K r) (ho : Fit B K o) : vc (outOf k r o) = if (vc o).h k then vc o + vc r else vc o := by
  unfold outOf
  show vc (if (vc o).h k then _ else _) = _
  split
  · exact vc_add ho h
  · rfl
theorem outOf_lead {B K k l : Nat} {r o : Rw} (h : Fit B K r) (ho : Fit B K o) (hk : Lead (vc r) k) (hl : Lead (vc o) l) (hc : (vc r).h l = false) : Lead (vc (outOf k r o)) l := by
  rw [outOf_vc h ho]
  split
  · rename_i e
    have hlk : l < k := by
      rcases Nat.lt_trichotomy l k with h1 | h1 | h1
      · exact h1
      · subst h1; rw [hk.1] at hc; cases hc
      · have := hl.2 k h1; rw [this] at e; cases e
    refine ⟨by rw [Vc.add_h, hl.1, hc]; rfl, fun j hj => by rw [Vc.add_h, hl.2 j hj, hk.2 j (by omega)]; rfl⟩
  · exact hl
theorem outOf_k {B K k : Nat} {r o : Rw} (h : Fit B K r) (ho : Fit B K o) (hk : Lead (vc r) k) : (vc (outOf k r o)).h k = false := by
  rw [outOf_vc h ho]
  split
  · rename_i e; rw [Vc.add_h, e, hk.1]; rfl
  · rename_i e; simpa using e
theorem outOf_other {B K k l : Nat} {r o : Rw} (h : Fit B K r) (ho : Fit B K o) (hc : (vc r).h l = false) : (vc (outOf k r o)).h l = (vc o).h l := by
  rw [outOf_vc h ho]
  split
  · rw [Vc.add_h, hc, Bool.xor_false]
  · rfl
theorem pairwise_drop_gt {rows : List Rw} (hp : rows.Pairwise fun a b => a.fst < b.fst) (k : Nat) : (∀ o ∈ rows.take (insAt k rows), o.fst ≤ k) ∧ ∀ o ∈ rows.drop (insAt k rows), (k : Int) < o.fst := by
  induction rows with
  | nil => exact ⟨fun _ h => by simp at h, fun _ h => by simp at h⟩
  | cons a rows ih =>
    obtain ⟨h1, h2⟩ := List.pairwise_cons.1 hp
    obtain ⟨i1, i2⟩ := ih h2
    unfold insAt at *
    rw [List.findIdx_cons]
    by_cases e : (k : Int) < a.fst
    · simp only [e, decide_true, cond_true]
      refine ⟨fun _ h => by simp at h, fun o ho => ?_⟩
      rcases List.mem_cons.1 ho with rfl | ho
      · exact e
      · have := h1 o ho; omega
    · simp only [e, decide_false, cond_false]
      refine ⟨fun o ho => ?_, fun o ho => i2 o ho⟩
      rcases List.mem_cons.1 ho with rfl | ho
      · omega
      · exact i1 o ho
/-- A clean row put in. -/
theorem insRow_sys {B K k : Nat} {rows : List Rw} {r : Rw} (hs : Sys B K rows) (h : Fit B K r) (hk : Lead (vc r) k) (hc : Clean rows r) :
    Sys B K (insRow rows k r) ∧ ∀ v, Sp (pl (insRow rows k r)) v ↔ Span (With rows r) v := by
  have hmem : ∀ x, x ∈ insRow rows k r ↔ x = r ∨ ∃ o ∈ rows, outOf k r o = x := by
    intro x
    unfold insRow
    have e := List.take_append_drop (insAt k (rows.map (outOf k r))) (rows.map (outOf k r))
    rw [← List.mem_map (f := outOf k r) (l := rows)]
    conv => rhs; rw [← e]
    simp only [List.mem_append, List.mem_cons]
    constructor
    · rintro (h | h | h)
      · exact .inr (.inl h)
      · exact .inl h
      · exact .inr (.inr h)
    · rintro (h | h | h)
      · exact .inr (.inl h)
      · exact .inl h
      · exact .inr (.inr h)
  have hof : ∀ o ∈ rows, (outOf k r o).fst = o.fst := fun o ho => by
    obtain ⟨l, h1, h2, _⟩ := hs.leads ho
    have := hc o ho
    rw [h1, Int.toNat_natCast] at this
    rw [h1]
    exact fst_lead.2 (outOf_lead h (hs.fit o ho) hk h2 this)
  have hr0 : r.fst = (k : Int) := fst_lead.2 hk
  have hp0 : rows.Pairwise fun a b => a.fst < b.fst ∧ (vc a).h b.fst.toNat = false := by
    have := hs.ech.up
    unfold pl at this
    rw [List.pairwise_map] at this
    refine this.imp_of_mem fun ha hb x => ⟨?_, x.2⟩
    have := x.1
    simp only [] at this
    have := hs.fst _ ha
    have := hs.fst _ hb
    omega
  have hp1 : (rows.map (outOf k r)).Pairwise fun a b => a.fst < b.fst ∧ (vc a).h b.fst.toNat = false := by
    rw [List.pairwise_map]
    refine hp0.imp_of_mem fun ha hb x => ?_
    rw [hof _ ha, hof _ hb]
    refine ⟨x.1, ?_⟩
    rw [outOf_other h (hs.fit _ ha) (hc _ hb)]
    exact x.2
  have hgt := pairwise_drop_gt (hp1.imp fun x => x.1) k
  have hsys : Sys B K (insRow rows k r) := by
    refine ⟨fun x hx => ?_, fun x hx => ?_, ?_, ?_⟩
    · rcases (hmem x).1 hx with rfl | ⟨o, ho, rfl⟩
      · exact h
      · exact outOf_fit h (hs.fit o ho)
    · rcases (hmem x).1 hx with rfl | ⟨o, ho, rfl⟩
      · omega
      · rw [hof o ho]; exact hs.fst o ho
    · have key : (insRow rows k r).Pairwise fun a b => (0 ≤ a.fst) → a.fst < b.fst ∧ (vc a).h b.fst.toNat = false := by
        unfold insRow
        have hp2 := hp1
        rw [← List.take_append_drop (insAt k (rows.map (outOf k r))) (rows.map (outOf k r)), List.pairwise_append] at hp2
        rw [List.pairwise_append, List.pairwise_cons]
        refine ⟨hp2.1.imp (fun {a b} x (_ : 0 ≤ a.fst) => x), ⟨fun b hb _ => ?_, hp2.2.1.imp (fun {a b} x (_ : 0 ≤ a.fst) => x)⟩, fun a ha b hb _ => ?_⟩
        · refine ⟨by rw [hr0]; exact hgt.2 b hb, ?_⟩
          obtain ⟨o, ho, rfl⟩ := List.mem_map.1 (List.mem_of_mem_drop hb)
          rw [hof o ho]; exact hc o ho
        · rcases List.mem_cons.1 hb with rfl | hb
          · have h1 := hgt.1 a ha
            obtain ⟨o, ho, rfl⟩ := List.mem_map.1 (List.mem_of_mem_take ha)
            have hk0 := outOf_k (k := k) h (hs.fit o ho) hk
            obtain ⟨l, e1, e2, _⟩ := hs.leads ho
            have hl := hof o ho
            refine ⟨?_, by rw [hr0, Int.toNat_natCast]; exact hk0⟩
            rw [hr0]
            have : l ≠ k := by
              rintro rfl
              have := hc o ho
              rw [e1, Int.toNat_natCast, hk.1] at this; cases this
            omega
          · exact hp2.2.2 a ha b hb
      unfold pl
      rw [List.pairwise_map]
      refine key.imp_of_mem fun ha hb x => ?_
      have h0 : ∀ {y}, y ∈ insRow rows k r → 0 ≤ y.fst := fun {y} hy => by
        rcases (hmem y).1 hy with rfl | ⟨o, ho, rfl⟩
        · omega
        · rw [hof o ho]; exact hs.fst o ho
      have h1 := x (h0 ha)
      have h2 := h0 ha
      exact ⟨by simp only []; omega, h1.2⟩
    · intro a ha
      obtain ⟨x, hx, rfl⟩ := List.mem_map.1 ha
      refine fst_lead.1 ?_
      have : 0 ≤ x.fst := by
        rcases (hmem x).1 hx with rfl | ⟨o, ho, rfl⟩
        · omega
        · rw [hof o ho]; exact hs.fst o ho
      simp only []; omega
  refine ⟨hsys, fun v => ⟨Span.le fun g hg => ?_, Span.le fun g hg => ?_⟩⟩
  · obtain ⟨a, ha, rfl⟩ := hg
    obtain ⟨x, hx, rfl⟩ := List.mem_map.1 ha
    rcases (hmem x).1 hx with rfl | ⟨o, ho, rfl⟩
    · exact .of (.inr rfl)
    · simp only []
      rw [outOf_vc h (hs.fit o ho)]
      split
      · exact .add (.inl (of_mem ho)) (.of (.inr rfl))
      · exact .of (.inl (of_mem ho))
  · have hr : Of (pl (insRow rows k r)) (vc r) := of_mem ((hmem r).2 (.inl rfl))
    rcases hg with ⟨a, ha, rfl⟩ | rfl
    · obtain ⟨o, ho, rfl⟩ := List.mem_map.1 ha
      have ho' : Of (pl (insRow rows k r)) (vc (outOf k r o)) := of_mem ((hmem _).2 (.inr ⟨o, ho, rfl⟩))
      rw [outOf_vc h (hs.fit o ho)] at ho'
      simp only []
      split at ho'
      · rw [show vc o = (vc o + vc r) + vc r by rw [Vc.assoc, Vc.self, Vc.add_zero]]
        exact .add ho' (.of hr)
      · exact .of ho'
    · exact .of hr
theorem length_insRow (rows : List Rw) (k : Nat) (r : Rw) : (insRow rows k r).length = rows.length + 1 := by
  unfold insRow
  simp only [List.length_append, List.length_take, List.length_cons, List.length_drop, List.length_map]
  have : insAt k (rows.map (outOf k r)) ≤ (rows.map (outOf k r)).length := List.findIdx_le_length
  simp at this
  omega

theorem zero_of {B K : Nat} {r : Rw} (h : Fit B K r) (h0 : ∀ i, (vc r).h i = false) (hd : r.data.all (fun c => c == 0) = true) : vc r = Vc.zero :=
  Vc.ext' h0 fun i => by
    show r.data.getD i 0 = 0
    rw [List.getD_eq_getElem?_getD]
    cases e : r.data[i]? with
    | none => rfl
    | some c => simpa using List.all_eq_true.1 hd c (List.mem_of_getElem? e)
/-- What a row that is added makes. -/
theorem addRow_cases {B K : Nat} {rows : List Rw} {r : Rw} (hs : Sys B K rows) (h : Fit B K r) :
    (addRow rows r = (rows, false, 0) ∧ Sp (pl rows) (vc r)) ∨ (addRow rows r = ([], false, 9) ∧ ∃ v, Span (With rows r) v ∧ (∀ i, v.h i = false) ∧ v ≠ Vc.zero) ∨
      (∃ rows' k, addRow rows r = (rows', true, 0) ∧ rows' = insRow rows k (redRow rows r) ∧ Lead (vc (redRow rows r)) k ∧ rows'.length = rows.length + 1 ∧ Sys B K rows' ∧ ∀ v, Sp (pl rows') v ↔ Span (With rows r) v) := by
  have hf := redRow_fit (r := r) hs.fit h
  have hv := redRow_vc hs h
  have hcl := redRow_clean hs h
  unfold addRow
  by_cases h0 : (redRow rows r).fst < 0
  · rw [if_pos h0]
    have hz := fst_none.1 h0
    by_cases hd : (redRow rows r).data.all (fun c => c == 0) = true
    · rw [if_pos hd]
      refine .inl ⟨rfl, ?_⟩
      have := zero_of hf hz hd
      rw [hv] at this
      rw [Vc.eq_of_add this]
      exact span_pj _ _
    · rw [if_neg hd]
      refine .inr (.inl ⟨rfl, vc (redRow rows r), (red_span hs h _).2 (.of (.inr rfl)), hz, fun e => hd ?_⟩)
      rw [List.all_eq_true]
      intro c hc
      obtain ⟨i, hi⟩ := List.mem_iff_getElem?.1 hc
      have : (vc (redRow rows r)).d i = 0 := by rw [e]; rfl
      have h2 : (redRow rows r).data.getD i 0 = 0 := this
      rw [List.getD_eq_getElem?_getD, hi] at h2
      simpa using h2
  · rw [if_neg h0]
    obtain ⟨k, hk⟩ := Int.eq_ofNat_of_zero_le (show 0 ≤ (redRow rows r).fst by omega)
    have hl := fst_lead.1 hk
    obtain ⟨h1, h2⟩ := insRow_sys hs hf hl hcl
    rw [hk]
    exact .inr (.inr ⟨_, k, rfl, rfl, hl, length_insRow _ _ _, h1, fun v => (h2 v).trans (red_span hs h v).symm⟩)
end Go.Proofs.Ytojoodmnmhcojaa
