/- How what is known lies in memory; an append that says where it lies. No condition; no function in sight. -/
import Derived.Test.YtnfjghldcopaaaaKnown
import Derived.Test.YtnfjghldcopaaaaSymP
import Derived.Test.YtnfjghldcopaaaaCode
import Derived.Test.YtnfjghldcopaaaaApp
import Derived.Test.YtnfjghldcopaaaaChg
import Derived.Lib.LazyBuf
set_option linter.unusedSimpArgs false
set_option linter.unusedVariables false
namespace Go.Proofs.Ytnfjghldcopaaaa

theorem mem_insRow {rows : List Rw} {k : Nat} {r x : Rw} : x ∈ insRow rows k r ↔ x = r ∨ ∃ o ∈ rows, outOf k r o = x := by
  unfold insRow
  have e := List.take_append_drop (insAt k (rows.map (outOf k r))) (rows.map (outOf k r))
  rw [← List.mem_map (f := outOf k r) (l := rows)]
  conv => rhs; rw [← e]
  simp only [List.mem_append, List.mem_cons]
  constructor
  · rintro (h | h | h)
    · exact .inr (.inl h)
    · exact .inl h
    · exact .inr (.inr h)
  · rintro (h | h | h)
    · exact .inr (.inl h)
    · exact .inl h
    · exact .inr (.inr h)

/-- A right system and a right row: what solve.Add makes. -/
theorem sysAdd_ok0 {B K : Int} {rows : List Rw} {r : Rw} (h : (sysAdd ⟨B, K, rows⟩ r).2.2 = 0) :
    ∃ b k : Nat, B = b ∧ K = k ∧ (1 ≤ b ∧ b ≤ 24) ∧ (1 ≤ k ∧ k ≤ 16) ∧ sysCheck b k rows = 0 ∧ Sys b k rows ∧ Fit b k r ∧ (sysAdd ⟨B, K, rows⟩ r).1.blocks = b ∧ (sysAdd ⟨B, K, rows⟩ r).1.block = k ∧
      (((sysAdd ⟨B, K, rows⟩ r).1.rows = rows ∧ (sysAdd ⟨B, K, rows⟩ r).2.1 = false ∧ Sp (pl rows) (vc r)) ∨
        (∃ i, (sysAdd ⟨B, K, rows⟩ r).1.rows = insRow rows i (redRow rows r) ∧ (sysAdd ⟨B, K, rows⟩ r).2.1 = true ∧ Lead (vc (redRow rows r)) i ∧ Sys b k (insRow rows i (redRow rows r)) ∧ ∀ v, Sp (pl (insRow rows i (redRow rows r))) v ↔ Span (With rows r) v)) := by
  unfold sysAdd at h ⊢
  by_cases h0 : sysCheck B K rows = 0
  · rw [if_neg (by simp [h0])] at h ⊢
    by_cases h1 : (r.has.length : Int) ≠ B ∨ (r.data.length : Int) ≠ K
    · rw [if_pos h1] at h; cases h
    · rw [if_neg h1] at h ⊢
      obtain ⟨⟨b1, b2⟩, ⟨k1, k2⟩, _, hR⟩ := sysCheck_ok h0
      obtain ⟨b, rfl⟩ := Int.eq_ofNat_of_zero_le (show 0 ≤ B by omega)
      obtain ⟨k, rfl⟩ := Int.eq_ofNat_of_zero_le (show 0 ≤ K by omega)
      have hs := rowsOk_sys hR
      have hf : Fit b k r := ⟨by omega, by omega⟩
      rcases addRow_cases hs hf with ⟨e, hsp⟩ | ⟨e, _⟩ | ⟨rows', i, e, rfl, hl, _, hs', hsp⟩
      · rw [e] at h ⊢
        exact ⟨b, k, rfl, rfl, by omega, by omega, h0, hs, hf, rfl, rfl, .inl ⟨rfl, rfl, hsp⟩⟩
      · rw [e] at h; cases h
      · rw [e] at h ⊢
        exact ⟨b, k, rfl, rfl, by omega, by omega, h0, hs, hf, rfl, rfl, .inr ⟨i, rfl, rfl, hl, hs', hsp⟩⟩
  · rw [if_pos h0] at h
    exact absurd h h0

/-- What follows already says nothing new. -/
theorem addRow_again {B K : Nat} {rows : List Rw} {r : Rw} (hs : Sys B K rows) (h : Fit B K r) (hsp : Sp (pl rows) (vc r)) : addRow rows r = (rows, false, 0) := by
  have hv := redRow_vc hs h
  rw [pj_span hs.ech hsp, Vc.self] at hv
  have h0 : (redRow rows r).fst < 0 := fst_none.2 fun i => by rw [hv]; rfl
  have hd : (redRow rows r).data.all (fun c => c == 0) = true := by
    rw [List.all_eq_true]
    intro c hc
    obtain ⟨i, hi⟩ := List.mem_iff_getElem?.1 hc
    have : (vc (redRow rows r)).d i = 0 := by rw [hv]; rfl
    have h2 : (redRow rows r).data.getD i 0 = 0 := this
    rw [List.getD_eq_getElem?_getD, hi] at h2
    simpa using h2
  unfold addRow
  rw [if_pos h0, if_pos hd]
theorem sysAdd_again {b k : Nat} {rows : List Rw} {r : Rw} (hB : 1 ≤ b ∧ b ≤ 24) (hK : 1 ≤ k ∧ k ≤ 16) (hs : Sys b k rows) (h : Fit b k r) (hsp : Sp (pl rows) (vc r)) : sysAdd ⟨b, k, rows⟩ r = (⟨b, k, rows⟩, false, 0) := by
  unfold sysAdd
  rw [if_neg (by simp [sysCheck_of hB hK hs]), if_neg (by simp [h.1, h.2]), addRow_again hs h hsp, if_pos rfl]

/-- One block alone. -/
theorem unit_iff {r : Rw} {k : Nat} (hk : r.fst = (k : Int)) : r.unit = true ↔ ∀ j, j ≠ k → (vc r).h j = false := by
  have hl := fst_lead.1 hk
  unfold Rw.unit
  rw [hk, Int.toNat_natCast]
  simp only [Bool.not_eq_true', decide_eq_false_iff_not]
  constructor
  · intro h j hj
    rcases Nat.lt_or_ge j k with h1 | h1
    · exact hl.2 j h1
    · cases e : (vc r).h j with
      | false => rfl
      | true =>
        refine absurd ?_ h
        have e2 : r.has.getD j false = true := e
        rw [List.getD_eq_getElem?_getD] at e2
        cases e3 : r.has[j]? with
        | none => rw [e3] at e2; cases e2
        | some b =>
          rw [e3] at e2
          have : b = true := e2
          subst this
          refine List.mem_of_getElem? (i := j - (k + 1)) ?_
          rw [List.getElem?_drop, show k + 1 + (j - (k + 1)) = j by omega]
          exact e3
  · intro h hm
    obtain ⟨i, hi⟩ := List.mem_iff_getElem?.1 hm
    rw [List.getElem?_drop] at hi
    have := h (k + 1 + i) (by omega)
    have e2 : r.has.getD (k + 1 + i) false = false := this
    rw [List.getD_eq_getElem?_getD, hi] at e2
    cases e2

theorem foldKnown_far {k : Nat} : ∀ {rows : List Rw} {out : List (List UInt8)}, (∀ o ∈ rows, o.unit = true → o.fst.toNat ≠ k) → (rows.foldl knownStep out)[k]? = out[k]?
  | [], _, _ => rfl
  | r :: rows, out, h => by
    rw [List.foldl_cons, foldKnown_far fun o ho => h o (List.mem_cons_of_mem _ ho)]
    unfold knownStep
    split
    · rename_i e
      rw [List.getElem?_set_ne (h r (by simp) e)]
    · rfl
theorem foldKnown_mem {k : Nat} : ∀ {rows : List Rw} {out : List (List UInt8)} {o : Rw}, (rows.Pairwise fun a b => a.fst.toNat ≠ b.fst.toNat) → o ∈ rows → o.unit = true → o.fst.toNat = k → k < out.length → (rows.foldl knownStep out)[k]? = some o.data
  | r :: rows, out, o, hp, ho, hu, hk, hl => by
    obtain ⟨p1, p2⟩ := List.pairwise_cons.1 hp
    rw [List.foldl_cons]
    rcases List.mem_cons.1 ho with rfl | ho
    · rw [foldKnown_far fun o' ho' _ => by rw [← hk]; exact (p1 o' ho').symm]
      unfold knownStep
      rw [if_pos hu, hk, List.getElem?_set_self hl]
    · exact foldKnown_mem p2 ho hu hk (by rw [length_knownStep]; exact hl)
theorem foldKnown_of {k : Nat} {b : List UInt8} : ∀ {rows : List Rw} {out : List (List UInt8)}, (rows.foldl knownStep out)[k]? = some b → out[k]? = some b ∨ ∃ o ∈ rows, o.unit = true ∧ o.fst.toNat = k ∧ o.data = b
  | [], _, h => .inl h
  | r :: rows, out, h => by
    rw [List.foldl_cons] at h
    rcases foldKnown_of h with h1 | ⟨o, ho, h1⟩
    · unfold knownStep at h1
      split at h1
      · rename_i e
        rw [List.getElem?_set] at h1
        split at h1
        · rename_i ek
          split at h1
          · injection h1 with h1
            exact .inr ⟨r, by simp, e, ek, h1⟩
          · cases h1
        · exact .inl h1
      · exact .inl h1
    · exact .inr ⟨o, List.mem_cons_of_mem _ ho, h1⟩
theorem Sys.apart {B K : Nat} {rows : List Rw} (h : Sys B K rows) : rows.Pairwise fun a b => a.fst.toNat ≠ b.fst.toNat := by
  have := h.ech.up
  unfold pl at this
  rw [List.pairwise_map] at this
  exact this.imp fun x => Nat.ne_of_lt x.1
theorem known_mem {B K : Nat} {rows : List Rw} (h : Sys B K rows) {o : Rw} (ho : o ∈ rows) (hu : o.unit = true) : (knownF B rows)[o.fst.toNat]? = some o.data := by
  obtain ⟨k, e, _, hlt⟩ := h.leads ho
  exact foldKnown_mem h.apart ho hu rfl (by simp; omega)
theorem known_of {B K : Nat} {rows : List Rw} (h : Sys B K rows) {k : Nat} {b : List UInt8} (hb : (knownF B rows)[k]? = some b) : b = [] ∨ ∃ o ∈ rows, o.unit = true ∧ o.fst.toNat = k ∧ o.data = b := by
  rcases foldKnown_of hb with h1 | h1
  · left
    have hk := (List.getElem?_eq_some_iff.1 h1).1
    rw [List.getElem?_replicate, if_pos (by simpa using hk)] at h1
    injection h1 with h1
    exact h1.symm
  · exact .inr h1
theorem length_knownF (B : Nat) (rows : List Rw) : (knownF B rows).length = B := by unfold knownF; rw [length_foldKnown]; simp

/-- What was known stays known. -/
theorem known_stays {B K i : Nat} {rows : List Rw} {r : Rw} (hs : Sys B K rows) (h : Fit B K r) (hl : Lead (vc (redRow rows r)) i) (hs' : Sys B K (insRow rows i (redRow rows r))) {k : Nat} {b : List UInt8} (hb : (knownF B rows)[k]? = some b) (hne : b ≠ []) :
    (knownF B (insRow rows i (redRow rows r)))[k]? = some b := by
  rcases known_of hs hb with h1 | ⟨o, ho, hu, rfl, rfl⟩
  · exact absurd h1 hne
  · obtain ⟨l, e, hl2, _⟩ := hs.leads ho
    have hc := redRow_clean hs h o ho
    have hne2 : i ≠ l := by
      rintro rfl
      rw [e, Int.toNat_natCast, hl.1] at hc
      cases hc
    have hbit : o.bit i = false := (unit_iff e).1 hu i hne2
    have hm : o ∈ insRow rows i (redRow rows r) := mem_insRow.2 (.inr ⟨o, ho, by unfold outOf; rw [if_neg (by simp [hbit])]⟩)
    exact known_mem hs' hm hu

/-- All that SolveKeeps says, plainly. -/
structure KeepsP (B K : Int) (rows rows' : List Rw) (m : Bool) (r : Rw) : Prop where
  chk : sysCheck B K rows = 0
  again : sysAdd ⟨B, K, rows'⟩ r = (⟨B, K, rows'⟩, false, 0)
  chk' : sysCheck B K rows' = 0
  len : m = decide (rows'.length = rows.length + 1)
  same : m = false → rows' = rows
  known : ∀ (k : Nat) (b : List UInt8), (knownF B.toNat rows)[k]? = some b → b ≠ [] → (knownF B.toNat rows')[k]? = some b
theorem keepsP {B K b k : Int} {rows rows' : List Rw} {m : Bool} {r : Rw} (h : sysAdd ⟨B, K, rows⟩ r = (⟨b, k, rows'⟩, m, 0)) : b = B ∧ k = K ∧ KeepsP B K rows rows' m r := by
  obtain ⟨b', k', rfl, rfl, hB, hK, hc, hs, hf, e1, e2, hcase⟩ := sysAdd_ok0 (B := B) (K := K) (rows := rows) (r := r) (by rw [h])
  rw [h] at e1 e2 hcase
  simp only [] at e1 e2 hcase
  subst e1 e2
  refine ⟨rfl, rfl, ?_⟩
  rcases hcase with ⟨rfl, rfl, hsp⟩ | ⟨i, rfl, rfl, hl, hs', hsp⟩
  · exact ⟨hc, sysAdd_again hB hK hs hf hsp, hc, by simp, fun _ => rfl, fun _ _ h _ => h⟩
  · refine ⟨hc, sysAdd_again hB hK hs' hf ((hsp _).2 (.of (.inr rfl))), sysCheck_of hB hK hs', ?_, (fun e => by cases e), fun j x hx hne => ?_⟩
    · rw [length_insRow]; simp
    · rw [Int.toNat_natCast] at hx ⊢
      exact known_stays hs hf hl hs' hx hne
end Go.Proofs.Ytnfjghldcopaaaa
namespace Go.Proofs.Ytnfjghldcopaaaa

/-- The sum of the blocks that are in, at a byte. -/
def evf : List (List UInt8) → (Nat → Bool) → Nat → UInt8
  | [], _, _ => 0
  | x :: xs, h, i => (if h 0 then x.getD i 0 else 0) ^^^ evf xs (fun k => h (k + 1)) i
theorem ev_key (a b : Bool) (X P Q : UInt8) : ((if (a ^^ b) then X else 0) ^^^ (P ^^^ Q)) = (((if a then X else 0) ^^^ P) ^^^ ((if b then X else 0) ^^^ Q)) := by
  cases a <;> cases b <;> simp
  · ac_rfl
  · ac_rfl
  · rw [show X ^^^ P ^^^ (X ^^^ Q) = (X ^^^ X) ^^^ (P ^^^ Q) by ac_rfl, UInt8.xor_self, UInt8.zero_xor]
theorem evf_add (i : Nat) : ∀ (bl : List (List UInt8)) (h h' : Nat → Bool), evf bl (fun k => h k ^^ h' k) i = (evf bl h i ^^^ evf bl h' i)
  | [], _, _ => by simp [evf]
  | x :: xs, h, h' => by
    simp only [evf]
    rw [evf_add i xs (fun k => h (k + 1)) (fun k => h' (k + 1))]
    exact ev_key _ _ _ _ _
theorem evf_none (i : Nat) : ∀ (bl : List (List UInt8)) (h : Nat → Bool), (∀ k, h k = false) → evf bl h i = 0
  | [], _, _ => rfl
  | x :: xs, h, h0 => by simp [evf, h0 0, evf_none i xs (fun k => h (k + 1)) fun k => h0 (k + 1)]
theorem evf_unit (i : Nat) : ∀ (bl : List (List UInt8)) (h : Nat → Bool) (k : Nat), h k = true → (∀ j, j ≠ k → h j = false) → evf bl h i = (bl.getD k []).getD i 0
  | [], _, _, _, _ => by simp [evf]
  | x :: xs, h, 0, h0, hn => by
    rw [evf, if_pos h0, evf_none i xs _ fun k => hn (k + 1) (by omega)]
    simp
  | x :: xs, h, k + 1, h0, hn => by
    rw [evf, if_neg (by simp [hn 0 (by omega)]), evf_unit i xs (fun k => h (k + 1)) k h0 fun j hj => hn (j + 1) (by omega)]
    simp
/-- What a row says holds of the blocks. -/
def Hold (bl : List (List UInt8)) (v : Vc) : Prop := ∀ i, v.d i = evf bl v.h i
theorem hold_zero (bl : List (List UInt8)) : Hold bl Vc.zero := fun i => (evf_none i bl _ fun _ => rfl).symm
theorem Hold.add {bl : List (List UInt8)} {u v : Vc} (h : Hold bl u) (k : Hold bl v) : Hold bl (u + v) := fun i => by
  rw [Vc.add_d, h i, k i]
  exact (evf_add i bl u.h v.h).symm
theorem Hold.span {bl : List (List UInt8)} {G : Vc → Prop} (h : ∀ g, G g → Hold bl g) {v : Vc} (hv : Span G v) : Hold bl v := hv.all (hold_zero bl) (fun _ _ a b => a.add b) h

theorem foldl_getD {K i : Nat} : ∀ (ls : List (List UInt8)) (acc : List UInt8), (∀ l ∈ ls, l.length = K) → acc.length = K → (ls.foldl zx acc).getD i 0 = (acc.getD i 0 ^^^ ls.foldr (fun l a => l.getD i 0 ^^^ a) 0)
  | [], acc, _, _ => by simp
  | l :: ls, acc, h, ha => by
    have hl := h l (by simp)
    rw [List.foldl_cons, foldl_getD ls (zx acc l) (fun x hx => h x (List.mem_cons_of_mem _ hx)) (by rw [length_zx (by omega), ha]), zx_getD (by omega), List.foldr_cons, UInt8.xor_assoc]
theorem sel_ev (i : Nat) : ∀ (has : List Bool) (bl : List (List UInt8)), has.length = bl.length → (sel has bl).foldr (fun l a => l.getD i 0 ^^^ a) 0 = evf bl (fun k => has.getD k false) i
  | [], [], _ => rfl
  | a :: has, x :: bl, h => by
    have ih := sel_ev i has bl (by simpa using h)
    have e : sel (a :: has) (x :: bl) = if a then x :: sel has bl else sel has bl := by cases a <;> simp [sel]
    rw [e, evf]
    have e2 : (fun k => (a :: has).getD (k + 1) false) = fun k => has.getD k false := by funext k; simp
    rw [e2, ← ih]
    cases a <;> simp
/-- The row of a symbol. -/
def symRow (b : Nat) (s : Sm) : Rw := ⟨pickHas s.id.toNat b, s.data⟩
theorem cutF_facts {B K : Nat} {c : List UInt8} (h : cutCheck B K = 0) (hl : c.length = B) : 1 ≤ (cutF K B c).length ∧ (cutF K B c).length ≤ 24 ∧ ((cutF K B c).length : Int) = blocksOf B K ∧ (∀ y ∈ cutF K B c, y.length = K) ∧ (1 ≤ K ∧ K ≤ 16) := by
  obtain ⟨q1, q2, q3⟩ := cutF_count h hl
  obtain ⟨h1, h2, _⟩ := cutCheck_ok h
  exact ⟨q1, q2, q3, cutF_all (by omega) B c, by omega⟩
theorem symOk_hold {B K : Nat} {c : List UInt8} (h : cutCheck B K = 0) (hl : c.length = B) {s : Sm} (hs : SymOk B K c s) : Fit (cutF K B c).length K (symRow (cutF K B c).length s) ∧ Hold (cutF K B c) (vc (symRow (cutF K B c).length s)) := by
  obtain ⟨_, _, _, hall, _⟩ := cutF_facts h hl
  have hsel : ∀ y ∈ sel (pickHas s.id.toNat (cutF K B c).length) (cutF K B c), y.length = K := fun y hy => hall y (sel_mem hy)
  refine ⟨⟨length_pickHas _ _, ?_⟩, fun i => ?_⟩
  · show s.data.length = K
    rw [hs.data]
    exact length_xorAll hsel (by simp [zeros])
  · show s.data.getD i 0 = evf _ (fun k => (pickHas s.id.toNat (cutF K B c).length).getD k false) i
    rw [hs.data]
    unfold xorAll
    rw [foldl_getD _ _ hsel (by simp [zeros]), sel_ev i _ _ (length_pickHas _ _)]
    have : (zeros K).getD i 0 = 0 := by unfold zeros; simp [List.getD_eq_getElem?_getD, List.getElem?_replicate]; split <;> rfl
    rw [this, UInt8.zero_xor]

/-- The rows of symbols. -/
def GS (b : Nat) (xs : List Sm) (g : Vc) : Prop := ∃ x ∈ xs, g = vc (symRow b x)
/-- A system that symbols made. -/
structure Made (b K : Nat) (xs : List Sm) (rows : List Rw) : Prop where
  sys : Sys b K rows
  span : ∀ v, Sp (pl rows) v ↔ Span (GS b xs) v
theorem made_nil (b K : Nat) : Made b K [] [] := ⟨⟨fun _ h => (by cases h), fun _ h => (by cases h), Ech.nil⟩, fun v => ⟨fun h => h.le fun g ⟨a, ha, _⟩ => (by cases ha), fun h => h.le fun g ⟨a, ha, _⟩ => (by cases ha)⟩⟩
/-- One symbol more. -/
theorem made_snoc {b K : Nat} {xs : List Sm} {rows rows' : List Rw} {x : Sm} {m : Bool} (hB : 1 ≤ b ∧ b ≤ 24) (hK : 1 ≤ K ∧ K ≤ 16) (h : Made b K xs rows) (hf : Fit b K (symRow b x)) (e : sysAdd ⟨b, K, rows⟩ (symRow b x) = (⟨b, K, rows'⟩, m, 0)) :
    Made b K (xs ++ [x]) rows' ∧ rows'.length = rows.length + (if m then 1 else 0) := by
  obtain ⟨b', k', e1, e2, _, _, _, hs, _, _, _, hcase⟩ := sysAdd_ok0 (B := b) (K := K) (rows := rows) (r := symRow b x) (by rw [e])
  obtain rfl : b' = b := by omega
  obtain rfl : k' = K := by omega
  rw [e] at hcase
  have hw : ∀ v, Span (With rows (symRow b' x)) v ↔ Span (GS b' (xs ++ [x])) v := by
    intro v
    constructor
    · refine Span.le fun g hg => ?_
      rcases hg with hg | rfl
      · exact ((h.span g).1 (.of hg)).mono fun g ⟨y, hy, e⟩ => ⟨y, List.mem_append_left _ hy, e⟩
      · exact .of ⟨x, by simp, rfl⟩
    · refine Span.le fun g hg => ?_
      obtain ⟨y, hy, rfl⟩ := hg
      rcases List.mem_append.1 hy with hy | hy
      · exact ((h.span _).2 (.of ⟨y, hy, rfl⟩)).mono fun g hg => .inl hg
      · obtain rfl := List.mem_singleton.1 hy
        exact .of (.inr rfl)
  rcases hcase with ⟨h1, h2, hsp⟩ | ⟨i, h1, h2, hl, hs', hsp⟩
  · simp only [] at h1 h2
    subst h1 h2
    refine ⟨⟨hs, fun v => Iff.trans ?_ (hw v)⟩, by simp⟩
    constructor
    · exact fun hv => hv.mono fun g hg => .inl hg
    · refine Span.le fun g hg => ?_
      rcases hg with hg | rfl
      · exact .of hg
      · exact hsp
  · simp only [] at h1 h2
    subst h1 h2
    exact ⟨⟨hs', fun v => (hsp v).trans (hw v)⟩, by rw [length_insRow]; simp⟩
/-- Symbols of one cargo never contradict. -/
theorem hold_add {b K : Nat} {bl : List (List UInt8)} {rows : List Rw} {r : Rw} (hB : 1 ≤ b ∧ b ≤ 24) (hK : 1 ≤ K ∧ K ≤ 16) (hs : Sys b K rows) (hf : Fit b K r) (hr : ∀ v, Sp (pl rows) v → Hold bl v) (hh : Hold bl (vc r)) : ∃ rows' m, sysAdd ⟨b, K, rows⟩ r = (⟨b, K, rows'⟩, m, 0) := by
  unfold sysAdd
  rw [if_neg (by simp [sysCheck_of hB hK hs]), if_neg (by simp [hf.1, hf.2])]
  rcases addRow_cases hs hf with ⟨e, _⟩ | ⟨e, v, hv, h0, hne⟩ | ⟨rows', k, e, _⟩
  · rw [e]; exact ⟨_, _, rfl⟩
  · exfalso
    have : Hold bl v := Hold.span (fun g hg => by
      rcases hg with hg | rfl
      · exact hr g (.of hg)
      · exact hh) hv
    refine hne (Vc.ext' h0 fun i => ?_)
    rw [this i, evf_none i bl _ h0]; rfl
  · rw [e]; exact ⟨_, _, rfl⟩
/-- What is known is a block of it. -/
theorem known_block {b K : Nat} {bl : List (List UInt8)} {rows : List Rw} (hs : Sys b K rows) (hl : bl.length = b) (hall : ∀ y ∈ bl, y.length = K) (hr : ∀ v, Sp (pl rows) v → Hold bl v) {k : Nat} {x : List UInt8} (hx : (knownF b rows)[k]? = some x) (hne : x ≠ []) : bl[k]? = some x := by
  rcases known_of hs hx with h1 | ⟨o, ho, hu, rfl, rfl⟩
  · exact absurd h1 hne
  · obtain ⟨l, e, hl2, hlt⟩ := hs.leads ho
    have hh := hr _ (.of (of_mem ho))
    have hun := (unit_iff e).1 hu
    rw [e, Int.toNat_natCast]
    have hlb : l < bl.length := by omega
    rw [List.getElem?_eq_getElem hlb]
    congr 1
    refine list_ext_getD (d := 0) ?_ fun i => ?_
    · rw [hall _ (List.getElem_mem hlb), (hs.fit o ho).2]
    · have h1 := hh i
      rw [evf_unit i bl _ l hl2.1 hun] at h1
      have h2 : (bl.getD l []) = bl[l] := by rw [List.getD_eq_getElem?_getD, List.getElem?_eq_getElem hlb]; rfl
      rw [h2] at h1
      exact h1.symm
/-- As many rows as blocks: all is known. -/
theorem full_unit {b K : Nat} {rows : List Rw} (hs : Sys b K rows) (hfull : b ≤ rows.length) : ∀ k, k < b → ∃ o ∈ rows, o.fst = (k : Int) ∧ o.unit = true := by
  have hn : ((pl rows).map (·.1)).Nodup := by
    rw [List.Nodup, List.pairwise_map]
    exact hs.ech.up.imp fun x => Nat.ne_of_lt x.1
  have hin : ∀ j ∈ (pl rows).map (·.1), j < b := fun j hj => by
    obtain ⟨a, ha, rfl⟩ := List.mem_map.1 hj
    obtain ⟨r, hr, rfl⟩ := List.mem_map.1 ha
    obtain ⟨k, e, _, hlt⟩ := hs.leads hr
    simp only []; omega
  have hall : ∀ k, k < b → ∃ o ∈ rows, o.fst = (k : Int) := fun k hk => by
    by_cases h : k ∈ (pl rows).map (·.1)
    · obtain ⟨a, ha, e⟩ := List.mem_map.1 h
      obtain ⟨r, hr, rfl⟩ := List.mem_map.1 ha
      obtain ⟨j, e2, _⟩ := hs.leads hr
      exact ⟨r, hr, by simp only [] at e; omega⟩
    · exfalso
      have := nodup_le hn (m := (List.range b).erase k) fun j hj => by
        refine (List.mem_erase_of_ne (fun e => h (by rw [← e]; exact hj))).2 (List.mem_range.2 (hin j hj))
      rw [List.length_erase_of_mem (List.mem_range.2 hk), List.length_range] at this
      simp [pl] at this
      omega
  intro k hk
  obtain ⟨o, ho, e⟩ := hall k hk
  refine ⟨o, ho, e, (unit_iff e).2 fun j hj => ?_⟩
  rcases Nat.lt_or_ge j b with hjb | hjb
  · obtain ⟨o', ho', e'⟩ := hall j hjb
    have := hs.ech.apart (List.mem_map.2 ⟨o, ho, rfl⟩) (List.mem_map.2 ⟨o', ho', rfl⟩) (by simp only []; omega)
    simp only [e', Int.toNat_natCast] at this
    exact this
  · show o.has.getD j false = false
    rw [List.getD_eq_getElem?_getD, List.getElem?_eq_none (by rw [(hs.fit o ho).1]; exact hjb)]; rfl
theorem known_full {b K : Nat} {bl : List (List UInt8)} {rows : List Rw} (hs : Sys b K rows) (hK : 1 ≤ K) (hl : bl.length = b) (hall : ∀ y ∈ bl, y.length = K) (hr : ∀ v, Sp (pl rows) v → Hold bl v) (hfull : b ≤ rows.length) : knownF b rows = bl := by
  apply List.ext_getElem?
  intro k
  rcases Nat.lt_or_ge k b with hk | hk
  · obtain ⟨o, ho, e, hu⟩ := full_unit hs hfull k hk
    have h1 := known_mem hs ho hu
    rw [e, Int.toNat_natCast] at h1
    rw [h1]
    exact (known_block hs hl hall hr h1 (fun e => by have := (hs.fit o ho).2; rw [e] at this; simp at this; omega)).symm
  · rw [List.getElem?_eq_none (by rw [length_knownF]; exact hk), List.getElem?_eq_none (by omega)]
/-- More that is said, no fewer rows. -/
theorem made_le {b K : Nat} {xs ys : List Sm} {rows rows' : List Rw} (h : Made b K xs rows) (h' : Made b K ys rows') (hle : ∀ x ∈ xs, x ∈ ys) : rows.length ≤ rows'.length := by
  have := ech_card (ps := pl rows) (qs := pl rows') h.sys.ech fun a ha => by
    obtain ⟨r, hr, rfl⟩ := List.mem_map.1 ha
    have h1 : Sp (pl rows') (vc r) := (h'.span _).2 (((h.span _).1 (.of (of_mem hr))).mono fun g ⟨y, hy, e⟩ => ⟨y, hle y hy, e⟩)
    exact span_lead h'.sys.ech h1 (h.sys.ech.lead _ ha)
  simpa [pl] using this
end Go.Proofs.Ytnfjghldcopaaaa
namespace Go.Proofs.Ytnfjghldcopaaaa

def decRows (b : Nat) (B K : Int) : List Rw → List Sm → List Rw × Int
  | rows, [] => (rows, 0)
  | rows, x :: xs =>
    if codeCheck B K x.id x.data.length ≠ 0 then ([], codeCheck B K x.id x.data.length)
    else if (sysAdd ⟨b, K, rows⟩ (symRow b x)).2.2 ≠ 0 then ([], (sysAdd ⟨b, K, rows⟩ (symRow b x)).2.2)
    else decRows b B K (sysAdd ⟨b, K, rows⟩ (symRow b x)).1.rows xs
/-- What solve.Decode answers. -/
def decodeF (B K : Int) (xs : List Sm) : List UInt8 × Int :=
  if cutCheck B K ≠ 0 then ([], cutCheck B K)
  else if 60 < xs.length then ([], 2)
  else if (decRows (blocksOf B K).toNat B K [] xs).2 ≠ 0 then ([], (decRows (blocksOf B K).toNat B K [] xs).2)
  else if (decRows (blocksOf B K).toNat B K [] xs).1.length < (blocksOf B K).toNat then ([], 8)
  else joinUp B K (knownF (blocksOf B K).toNat (decRows (blocksOf B K).toNat B K [] xs).1)
theorem codeCheck_ok {B K id : Int} {len : Nat} (h : codeCheck B K id len = 0) : cutCheck B K = 0 ∧ (0 ≤ id ∧ id ≤ 9999) ∧ (len : Int) = K := by
  unfold codeCheck at h
  split at h
  · rename_i h1; exact absurd h h1
  · split at h
    · cases h
    · split at h
      · cases h
      · rename_i h1 h2 h3
        simp only [ne_eq, Decidable.not_not] at h1 h3
        exact ⟨h1, by omega, h3⟩
theorem codeCheck_of {B K id : Int} {len : Nat} (h1 : cutCheck B K = 0) (h2 : 0 ≤ id ∧ id ≤ 9999) (h3 : (len : Int) = K) : codeCheck B K id len = 0 := by
  unfold codeCheck
  rw [if_neg (by simp [h1]), if_neg (by omega), if_neg (by simp [h3])]
/-- Where no symbol was refused. -/
theorem decRows_made {b K : Nat} {B : Int} (hB : 1 ≤ b ∧ b ≤ 24) (hK : 1 ≤ K ∧ K ≤ 16) : ∀ (xs ys : List Sm) (rows : List Rw), Made b K ys rows → (decRows b B K rows xs).2 = 0 → Made b K (ys ++ xs) (decRows b B K rows xs).1 ∧ ∀ x ∈ xs, codeCheck B K x.id x.data.length = 0
  | [], ys, rows, h, _ => ⟨by rw [List.append_nil]; exact h, fun _ h => by cases h⟩
  | x :: xs, ys, rows, h, h0 => by
    rw [decRows] at h0 ⊢
    by_cases h1 : codeCheck B K x.id x.data.length = 0
    · rw [if_neg (by simp [h1])] at h0 ⊢
      by_cases h2 : (sysAdd ⟨b, K, rows⟩ (symRow b x)).2.2 = 0
      · rw [if_neg (by simp [h2])] at h0 ⊢
        have hf : Fit b K (symRow b x) := ⟨length_pickHas _ _, by have := (codeCheck_ok h1).2.2; show x.data.length = K; omega⟩
        obtain ⟨b', k', e1, e2, _, _, _, _, _, e3, e4, _⟩ := sysAdd_ok0 h2
        have e : sysAdd ⟨b, K, rows⟩ (symRow b x) = (⟨b, K, (sysAdd ⟨b, K, rows⟩ (symRow b x)).1.rows⟩, (sysAdd ⟨b, K, rows⟩ (symRow b x)).2.1, 0) := by
          refine Prod.ext ?_ (Prod.ext rfl h2)
          cases hq : (sysAdd ⟨b, K, rows⟩ (symRow b x)).1 with
          | mk q1 q2 q3 =>
            rw [hq] at e3 e4
            simp only [] at e3 e4
            rw [e3, e4, ← e1, ← e2]
        have hm := (made_snoc hB hK h hf e).1
        obtain ⟨h3, h4⟩ := decRows_made hB hK xs (ys ++ [x]) _ hm h0
        refine ⟨by rw [List.append_assoc] at h3; exact h3, fun y hy => ?_⟩
        rcases List.mem_cons.1 hy with rfl | hy
        · exact h1
        · exact h4 y hy
      · rw [if_pos h2] at h0; exact absurd h0 h2
    · rw [if_pos h1] at h0; exact absurd h0 h1
/-- Symbols of one cargo are never refused. -/
theorem decRows_hold {b K : Nat} {B : Int} {bl : List (List UInt8)} (hB : 1 ≤ b ∧ b ≤ 24) (hK : 1 ≤ K ∧ K ≤ 16) (hc : cutCheck B K = 0) : ∀ (xs ys : List Sm) (rows : List Rw), Made b K ys rows → (∀ x ∈ ys ++ xs, Fit b K (symRow b x) ∧ Hold bl (vc (symRow b x)) ∧ 0 ≤ x.id ∧ x.id ≤ 9999) → (decRows b B K rows xs).2 = 0
  | [], _, _, _, _ => rfl
  | x :: xs, ys, rows, h, hall => by
    obtain ⟨hf, hh, hid⟩ := hall x (by simp)
    have h1 : codeCheck B K x.id x.data.length = 0 := codeCheck_of hc hid (by have := hf.2; show ((x.data.length : Nat) : Int) = K; have e : x.data.length = K := this; omega)
    have hspan : ∀ v, Sp (pl rows) v → Hold bl v := fun v hv => Hold.span (fun g ⟨y, hy, e⟩ => by rw [e]; exact (hall y (List.mem_append_left _ hy)).2.1) ((h.span v).1 hv)
    obtain ⟨rows', m, e⟩ := hold_add hB hK h.sys hf hspan hh
    rw [decRows, if_neg (by simp [h1]), e, if_neg (by simp)]
    exact decRows_hold hB hK hc xs (ys ++ [x]) rows' (made_snoc hB hK h hf e).1 (by rw [List.append_assoc]; exact hall)

/-- Symbols that hold of a cargo's blocks. -/
structure SymsOk (B K : Nat) (c : List UInt8) (xs : List Sm) : Prop where
  cut : cutCheck B K = 0
  len : c.length = B
  many : xs.length ≤ 60
  all : ∀ x ∈ xs, SymOk B K c x
theorem SymsOk.hold {B K : Nat} {c : List UInt8} {xs : List Sm} (h : SymsOk B K c xs) : ∀ x ∈ xs, Fit (cutF K B c).length K (symRow (cutF K B c).length x) ∧ Hold (cutF K B c) (vc (symRow (cutF K B c).length x)) ∧ 0 ≤ x.id ∧ x.id ≤ 9999 := fun x hx => by
  obtain ⟨h1, h2⟩ := symOk_hold h.cut h.len (h.all x hx)
  exact ⟨h1, h2, (h.all x hx).id⟩
/-- The rows that symbols of a cargo make. -/
theorem SymsOk.rows {B K : Nat} {c : List UInt8} {xs : List Sm} (h : SymsOk B K c xs) : ∃ rows, Made (cutF K B c).length K xs rows ∧ decodeF B K xs = if rows.length < (cutF K B c).length then ([], 8) else (c, 0) := by
  obtain ⟨q1, q2, q3, hall, hK⟩ := cutF_facts h.cut h.len
  have e0 := decRows_hold (B := (B : Int)) ⟨q1, q2⟩ hK h.cut xs [] [] (made_nil _ _) (by simpa using h.hold)
  obtain ⟨hm, _⟩ := decRows_made (B := (B : Int)) ⟨q1, q2⟩ hK xs [] [] (made_nil _ _) e0
  rw [List.nil_append] at hm
  refine ⟨_, hm, ?_⟩
  unfold decodeF
  have hb : (blocksOf B K).toNat = (cutF K B c).length := by omega
  rw [if_neg (by simp [h.cut]), if_neg (by have := h.many; omega), hb, if_neg (by simp [e0])]
  split
  · rfl
  · rename_i hlt
    have hspan : ∀ v, Sp (pl (decRows (cutF K B c).length B K [] xs).1) v → Hold (cutF K B c) v := fun v hv => Hold.span (fun g ⟨y, hy, e⟩ => by rw [e]; exact (h.hold y hy).2.1) ((hm.span v).1 hv)
    rw [known_full hm.sys hK.1 rfl hall hspan (by omega)]
    exact join_cut h.cut h.len
/-- It is known, or it isn't yet. -/
theorem SymsOk.decode {B K : Nat} {c : List UInt8} {xs : List Sm} (h : SymsOk B K c xs) : decodeF B K xs = ([], 8) ∨ decodeF B K xs = (c, 0) := by
  obtain ⟨rows, _, e⟩ := h.rows
  rw [e]; split
  · exact .inl rfl
  · exact .inr rfl
/-- Whatever else is told, no less is known. -/
theorem SymsOk.more {B K : Nat} {c : List UInt8} {xs ys : List Sm} (h : SymsOk B K c xs) (h' : SymsOk B K c ys) (hle : ∀ x ∈ xs, x ∈ ys) (e : (decodeF B K xs).2 = 0) : decodeF B K ys = (c, 0) := by
  obtain ⟨rows, hm, e1⟩ := h.rows
  obtain ⟨rows', hm', e2⟩ := h'.rows
  have := made_le hm hm' hle
  rw [e1] at e
  rw [e2]
  split at e
  · cases e
  · rw [if_neg (by omega)]
theorem SymsOk.same {B K : Nat} {c : List UInt8} {xs ys : List Sm} (h : SymsOk B K c xs) (h' : SymsOk B K c ys) (hle : ∀ x, x ∈ xs ↔ x ∈ ys) : decodeF B K xs = decodeF B K ys := by
  rcases h.decode with e | e
  · rcases h'.decode with e' | e'
    · rw [e, e']
    · have := h'.more h (fun x hx => (hle x).2 hx) (by rw [e'])
      rw [e] at this; cases this
  · rw [e, h.more h' (fun x hx => (hle x).1 hx) (by rw [e])]
end Go.Proofs.Ytnfjghldcopaaaa
namespace Go.Proofs.Ytnfjghldcopaaaa

def flip0 (l : List UInt8) : List UInt8 := l.set 0 (l.getD 0 0 ^^^ 1)
def flipSm (s : Sm) : Sm := ⟨s.id, flip0 s.data⟩
theorem decodeF_ok {B K : Int} {xs : List Sm} {c : List UInt8} (h : decodeF B K xs = (c, 0)) : cutCheck B K = 0 ∧ (decRows (blocksOf B K).toNat B K [] xs).2 = 0 ∧ (blocksOf B K).toNat ≤ (decRows (blocksOf B K).toNat B K [] xs).1.length ∧ joinUp B K (knownF (blocksOf B K).toNat (decRows (blocksOf B K).toNat B K [] xs).1) = (c, 0) := by
  unfold decodeF at h
  split at h
  · rename_i h1; injection h with _ h; exact absurd h h1
  · rename_i h1
    split at h
    · cases h
    · split at h
      · rename_i h2; injection h with _ h; exact absurd h h2
      · rename_i h2
        split at h
        · cases h
        · rename_i h3
          simp only [ne_eq, Decidable.not_not] at h1 h2
          exact ⟨h1, h2, by omega, h⟩
theorem never_flip {B K : Nat} {c : List UInt8} {xs : List Sm} (h : SymsOk B K c xs) {k : Nat} {x : Sm} (hx : xs[k]? = some x) : decodeF B K (xs.set k (flipSm x)) ≠ (c, 0) := by
  intro e
  obtain ⟨h1, h2, h3, h4⟩ := decodeF_ok e
  obtain ⟨q1, q2, q3, hall, hK⟩ := cutF_facts h.cut h.len
  have hb : (blocksOf B K).toNat = (cutF K B c).length := by omega
  rw [hb] at h2 h3 h4
  obtain ⟨hm, _⟩ := decRows_made (B := (B : Int)) ⟨q1, q2⟩ hK _ [] [] (made_nil _ _) h2
  rw [List.nil_append] at hm
  obtain ⟨rows, hrows⟩ : ∃ rows, rows = (decRows (cutF K B c).length B K [] (xs.set k (flipSm x))).1 := ⟨_, rfl⟩
  rw [← hrows] at h3 h4 hm
  have hkn : knownF (cutF K B c).length rows = cutF K B c := by
    have := cut_join (B := (B : Int)) (K := (K : Int)) (ls := knownF (cutF K B c).length rows) (by rw [h4])
    rw [h4, cutUp_ok h.cut h.len] at this
    exact (Prod.ext_iff.1 this).1.symm
  have hrow : ∀ o ∈ rows, Hold (cutF K B c) (vc o) := fun o ho => by
    obtain ⟨j, ej, hl, hj⟩ := hm.sys.leads ho
    obtain ⟨o', ho', ej', hu⟩ := full_unit hm.sys h3 j hj
    have := hm.sys.ech.inj (List.mem_map.2 ⟨o, ho, rfl⟩) (List.mem_map.2 ⟨o', ho', rfl⟩) (by simp only [ej, ej'])
    have hvo : vc o = vc o' := (Prod.ext_iff.1 this).2
    obtain rfl := vc_inj (hm.sys.fit o ho) (hm.sys.fit o' ho') hvo
    have hd := known_mem hm.sys ho hu
    rw [hkn, ej, Int.toNat_natCast] at hd
    intro i
    rw [evf_unit i (cutF K B c) _ j hl.1 ((unit_iff ej).1 hu)]
    have : (cutF K B c).getD j [] = o.data := by rw [List.getD_eq_getElem?_getD, hd]; rfl
    rw [this]; rfl
  have hkl := (List.getElem?_eq_some_iff.1 hx).1
  have hxm : flipSm x ∈ xs.set k (flipSm x) := List.mem_of_getElem? (List.getElem?_set_self hkl)
  have hflip : Hold (cutF K B c) (vc (symRow (cutF K B c).length (flipSm x))) := Hold.span (fun g ⟨a, ha, e⟩ => by
    obtain ⟨o, ho, rfl⟩ := List.mem_map.1 ha
    rw [← e]; exact hrow o ho) ((hm.span _).2 (.of ⟨_, hxm, rfl⟩))
  obtain ⟨hf, hh, _⟩ := h.hold x (List.mem_of_getElem? hx)
  have e1 : (flip0 x.data).getD 0 0 = evf (cutF K B c) _ 0 := hflip 0
  have e2 : x.data.getD 0 0 = evf (cutF K B c) _ 0 := hh 0
  have hdl : 0 < x.data.length := by have := hf.2; have e : x.data.length = K := this; omega
  have e3 : (flip0 x.data).getD 0 0 = x.data.getD 0 0 ^^^ 1 := by
    unfold flip0
    rw [List.getD_eq_getElem?_getD, List.getElem?_set_self hdl]; rfl
  have e4 : x.data.getD 0 0 ^^^ 1 = x.data.getD 0 0 := by rw [← e3, e1]; exact e2.symm
  have e5 : x.data.getD 0 0 ^^^ (x.data.getD 0 0 ^^^ 1) = x.data.getD 0 0 ^^^ x.data.getD 0 0 := by rw [e4]
  rw [← UInt8.xor_assoc, UInt8.xor_self, UInt8.zero_xor] at e5
  cases e5
theorem decode_none {B K : Nat} {c : List UInt8} (h : SymsOk B K c []) : decodeF B K [] = ([], 8) := by
  obtain ⟨rows, hm, e⟩ := h.rows
  have hr : rows.length = 0 := by
    rcases Nat.eq_zero_or_pos rows.length with h0 | h0
    · exact h0
    · have := made_le hm (made_nil _ K) fun x hx => hx
      simpa using this
  rw [e, if_pos (by have := (cutF_facts h.cut h.len).1; omega)]
theorem symsOk_of {B K : Nat} {c : List UInt8} (h1 : cutCheck B K = 0) (h2 : c.length = B) (ids : List Int) : SymsOk B K c (symsOf B K c ids) := ⟨h1, h2, length_symsOf _ _ _ _, symsOf_ok h1 h2 ids⟩
/-- The first symbols, as many as there are blocks, are enough. -/
theorem enough_first {B K : Nat} {c : List UInt8} {xs : List Sm} (h : SymsOk B K c xs) (hall : ∀ k : Nat, k < (cutF K B c).length → ∃ x ∈ xs, x.id = (k : Int)) : decodeF B K xs = (c, 0) := by
  obtain ⟨rows, hm, e⟩ := h.rows
  obtain ⟨q1, q2, _⟩ := cutF_facts h.cut h.len
  have hlen : (cutF K B c).length ≤ rows.length := by
    have hn : (List.range (cutF K B c).length).Nodup := List.nodup_range
    have := nodup_le hn (m := (pl rows).map (·.1)) fun k hk => by
      have hk := List.mem_range.1 hk
      obtain ⟨x, hx, hid⟩ := hall k hk
      have hs : Sp (pl rows) (vc (symRow (cutF K B c).length x)) := (hm.span _).2 (.of ⟨x, hx, rfl⟩)
      have hl : Lead (vc (symRow (cutF K B c).length x)) k := by
        have hp : pickHas x.id.toNat (cutF K B c).length = (noHas (cutF K B c).length).set k true := by
          rw [hid, Int.toNat_natCast]; unfold pickHas; rw [if_pos hk]
        refine ⟨?_, fun j hj => ?_⟩
        · show (pickHas x.id.toNat (cutF K B c).length).getD k false = true
          rw [hp, List.getD_eq_getElem?_getD, List.getElem?_set_self (by simpa [noHas] using hk)]; rfl
        · show (pickHas x.id.toNat (cutF K B c).length).getD j false = false
          rw [hp, List.getD_eq_getElem?_getD, List.getElem?_set_ne (by omega)]
          unfold noHas
          rw [List.getElem?_replicate, if_pos (by omega)]; rfl
      obtain ⟨a, ha, ea⟩ := span_lead hm.sys.ech hs hl
      exact List.mem_map.2 ⟨a, ha, ea⟩
    simpa [pl] using this
  rw [e, if_neg (by omega)]
end Go.Proofs.Ytnfjghldcopaaaa
namespace Go.Proofs.Ytnfjghldcopaaaa

/-- What is known of each block. -/
abbrev Kn := List (Option (List UInt8))
def Kn.isK (kn : Kn) (k : Nat) : Bool := (kn.getD k none).isSome
/-- Which of the first so many blocks that are in aren't known; the ones that are. -/
def miss (has : List Bool) (kn : Kn) (m : Nat) : List Nat := (List.range m).filter fun k => has.getD k false && !kn.isK k
def got (has : List Bool) (kn : Kn) (m : Nat) : List (List UInt8) := (List.range m).filterMap fun k => if has.getD k false then kn.getD k none else none
theorem miss_succ (has : List Bool) (kn : Kn) (m : Nat) : miss has kn (m + 1) = miss has kn m ++ if has.getD m false && !kn.isK m then [m] else [] := by
  unfold miss
  rw [List.range_succ, List.filter_append]
  congr 1
  cases h : (has.getD m false && !kn.isK m) <;> simp only [List.filter, h, if_true, Bool.false_eq_true, if_false]
theorem got_succ (has : List Bool) (kn : Kn) (m : Nat) : got has kn (m + 1) = got has kn m ++ (if has.getD m false then (kn.getD m none).toList else []) := by
  unfold got
  rw [List.range_succ, List.filterMap_append]
  congr 1
  cases h : has.getD m false <;> cases h2 : kn.getD m none <;> simp only [List.filterMap, h, h2, if_true, Bool.false_eq_true, if_false, Option.toList]
theorem got_mem {has : List Bool} {kn : Kn} {m : Nat} {l : List UInt8} (h : l ∈ got has kn m) : ∃ k : Nat, kn[k]? = some (some l) := by
  obtain ⟨k, _, hk⟩ := List.mem_filterMap.1 h
  refine ⟨k, ?_⟩
  split at hk
  · rw [List.getD_eq_getElem?_getD] at hk
    cases h2 : kn[k]? with
    | none => rw [h2] at hk; simp at hk
    | some x => rw [h2] at hk; simp at hk; rw [hk]
  · cases hk
theorem length_got (has : List Bool) (kn : Kn) (m : Nat) : (got has kn m).length ≤ m := by
  have := List.length_filterMap_le (fun k => if has.getD k false then kn.getD k none else none) (List.range m)
  simpa [got] using this
theorem length_miss (has : List Bool) (kn : Kn) (m : Nat) : (miss has kn m).length ≤ m := by
  have := List.length_filter_le (fun k => has.getD k false && !kn.isK k) (List.range m)
  simpa [miss] using this
/-- All that is known is as long as a block. -/
def KnLen (K : Nat) (kn : Kn) : Prop := ∀ (k : Nat) l, kn[k]? = some (some l) → l.length = K
/-- What a symbol with one block unknown tells. -/
def told (has : List Bool) (d : List UInt8) (kn : Kn) : List UInt8 := (sumAdd (d :: got has kn kn.length)).1
/-- One symbol. -/
def pOne (kn : Kn) (x : Sm) : Kn × List Sm × Bool :=
  if (miss (pickHas x.id.toNat kn.length) kn kn.length).length = 1 then (kn.set ((miss (pickHas x.id.toNat kn.length) kn kn.length).getLastD 0) (some (told (pickHas x.id.toNat kn.length) x.data kn)), [], true)
  else if 1 < (miss (pickHas x.id.toNat kn.length) kn kn.length).length then (kn, [x], false) else (kn, [], false)
def pRound : Kn → List Sm → Kn × List Sm × Bool
  | kn, [] => (kn, [], false)
  | kn, x :: xs => ((pRound (pOne kn x).1 xs).1, (pOne kn x).2.1 ++ (pRound (pOne kn x).1 xs).2.1, (pOne kn x).2.2 || (pRound (pOne kn x).1 xs).2.2)
def pRun : Nat → Kn → List Sm → Kn
  | 0, kn, _ => kn
  | f + 1, kn, xs => if (pRound kn xs).2.2 then pRun f (pRound kn xs).1 (pRound kn xs).2.1 else (pRound kn xs).1
def peelF (b : Nat) (xs : List Sm) : Kn := pRun (b + 1) (List.replicate b none) xs

theorem isK_set {kn : Kn} {a k : Nat} {l : List UInt8} (ha : a < kn.length) : Kn.isK (kn.set a (some l)) k = (kn.isK k || decide (k = a)) := by
  unfold Kn.isK
  rw [List.getD_eq_getElem?_getD, List.getD_eq_getElem?_getD, List.getElem?_set]
  by_cases h : a = k
  · subst h; simp [ha]
  · have h' : ¬ k = a := fun e => h e.symm
    simp [h, h']
theorem isK_iff {kn : Kn} {k : Nat} : kn.isK k = true ↔ ∃ l, kn[k]? = some (some l) := by
  unfold Kn.isK
  rw [List.getD_eq_getElem?_getD]
  cases h : kn[k]? with
  | none => simp
  | some x => cases x <;> simp
theorem isK_lt {kn : Kn} {k : Nat} (h : kn.isK k = true) : k < kn.length := by
  obtain ⟨l, h⟩ := isK_iff.1 h
  exact (List.getElem?_eq_some_iff.1 h).1
theorem mem_miss {has : List Bool} {kn : Kn} {m k : Nat} : k ∈ miss has kn m ↔ k < m ∧ has.getD k false = true ∧ kn.isK k = false := by
  simp [miss]
/-- The one that is lacking. -/
theorem one_miss {has : List Bool} {kn : Kn} {m : Nat} (h : (miss has kn m).length = 1) : ∃ a, miss has kn m = [a] ∧ (miss has kn m).getLastD 0 = a ∧ a < m ∧ has.getD a false = true ∧ kn.isK a = false := by
  obtain ⟨a, e⟩ := List.length_eq_one_iff.1 h
  refine ⟨a, e, by rw [e]; rfl, ?_⟩
  exact mem_miss.1 (by rw [e]; simp)
theorem miss_le {has : List Bool} {kn kn' : Kn} {m : Nat} (h : ∀ k, kn.isK k = true → kn'.isK k = true) : (miss has kn' m).length ≤ (miss has kn m).length := by
  unfold miss
  rw [← List.countP_eq_length_filter, ← List.countP_eq_length_filter]
  refine List.countP_mono_left fun k _ hk => ?_
  simp only [Bool.and_eq_true, Bool.not_eq_true'] at hk ⊢
  refine ⟨hk.1, ?_⟩
  cases e : kn.isK k with
  | false => rfl
  | true => rw [h k e] at hk; exact absurd hk.2 (by simp)

theorem pOne_cases (kn : Kn) (x : Sm) :
    (∃ a, (miss (pickHas x.id.toNat kn.length) kn kn.length) = [a] ∧ a < kn.length ∧ (pickHas x.id.toNat kn.length).getD a false = true ∧ kn.isK a = false ∧ pOne kn x = (kn.set a (some (told (pickHas x.id.toNat kn.length) x.data kn)), [], true)) ∨
    (1 < (miss (pickHas x.id.toNat kn.length) kn kn.length).length ∧ pOne kn x = (kn, [x], false)) ∨ ((miss (pickHas x.id.toNat kn.length) kn kn.length).length = 0 ∧ pOne kn x = (kn, [], false)) := by
  unfold pOne
  by_cases h1 : (miss (pickHas x.id.toNat kn.length) kn kn.length).length = 1
  · obtain ⟨a, e, e2, h3, h4, h5⟩ := one_miss h1
    exact .inl ⟨a, e, h3, h4, h5, by rw [if_pos h1, e2]⟩
  · rw [if_neg h1]
    by_cases h2 : 1 < (miss (pickHas x.id.toNat kn.length) kn kn.length).length
    · exact .inr (.inl ⟨h2, if_pos h2⟩)
    · exact .inr (.inr ⟨by omega, if_neg h2⟩)
theorem pOne_len (kn : Kn) (x : Sm) : (pOne kn x).1.length = kn.length := by
  rcases pOne_cases kn x with ⟨a, _, _, _, _, e⟩ | ⟨_, e⟩ | ⟨_, e⟩ <;> rw [e] <;> simp
theorem pRound_len : ∀ (xs : List Sm) (kn : Kn), (pRound kn xs).1.length = kn.length
  | [], _ => rfl
  | x :: xs, kn => by rw [pRound]; show (pRound (pOne kn x).1 xs).1.length = _; rw [pRound_len xs, pOne_len]
theorem pOne_grows {kn : Kn} {x : Sm} {k : Nat} (h : kn.isK k = true) : (pOne kn x).1.isK k = true := by
  rcases pOne_cases kn x with ⟨a, _, ha, _, _, e⟩ | ⟨_, e⟩ | ⟨_, e⟩
  · rw [e]; show Kn.isK (kn.set a _) k = true; rw [isK_set ha, h]; rfl
  · rw [e]; exact h
  · rw [e]; exact h
theorem pRound_grows : ∀ {xs : List Sm} {kn : Kn} {k : Nat}, kn.isK k = true → (pRound kn xs).1.isK k = true
  | [], _, _, h => h
  | x :: xs, kn, k, h => pRound_grows (xs := xs) (pOne_grows h)
theorem pRound_left : ∀ {xs : List Sm} {kn : Kn} {y : Sm}, y ∈ (pRound kn xs).2.1 → y ∈ xs
  | [], _, _, h => h
  | x :: xs, kn, y, h => by
    rcases List.mem_append.1 (show y ∈ (pOne kn x).2.1 ++ _ from h) with h | h
    · rcases pOne_cases kn x with ⟨a, _, _, _, _, e⟩ | ⟨_, e⟩ | ⟨_, e⟩ <;> rw [e] at h <;> simp at h
      subst h; simp
    · exact List.mem_cons_of_mem _ (pRound_left h)
theorem pRound_left_len : ∀ (xs : List Sm) (kn : Kn), (pRound kn xs).2.1.length ≤ xs.length
  | [], _ => Nat.le_refl _
  | x :: xs, kn => by
    have := pRound_left_len xs (pOne kn x).1
    rw [pRound]
    show ((pOne kn x).2.1 ++ (pRound (pOne kn x).1 xs).2.1).length ≤ _
    rcases pOne_cases kn x with ⟨a, _, _, _, _, e⟩ | ⟨_, e⟩ | ⟨_, e⟩ <;> rw [e] at this ⊢ <;> dsimp only at this ⊢ <;> simp only [List.nil_append, List.cons_append, List.length_cons] <;> omega
/-- How many aren't known yet. -/
def nones (kn : Kn) : Nat := kn.countP fun x => x.isNone
theorem nones_set {kn : Kn} {a : Nat} {l : List UInt8} (ha : a < kn.length) (h : kn.isK a = false) : nones (kn.set a (some l)) + 1 = nones kn := by
  unfold nones
  rw [List.countP_set ha]
  have h1 : kn[a] = none := by
    unfold Kn.isK at h
    rw [List.getD_eq_getElem?_getD, List.getElem?_eq_getElem ha] at h
    simpa using h
  have h2 : 0 < kn.countP fun x => x.isNone := List.countP_pos_iff.2 ⟨kn[a], List.getElem_mem ha, by rw [h1]; rfl⟩
  simp [h1]
  omega
theorem pOne_nones (kn : Kn) (x : Sm) : nones (pOne kn x).1 + (if (pOne kn x).2.2 then 1 else 0) = nones kn := by
  rcases pOne_cases kn x with ⟨a, _, ha, _, h, e⟩ | ⟨_, e⟩ | ⟨_, e⟩
  · rw [e]; exact nones_set ha h
  · rw [e]; rfl
  · rw [e]; rfl
theorem pRound_nones : ∀ (xs : List Sm) (kn : Kn), nones (pRound kn xs).1 + (if (pRound kn xs).2.2 then 1 else 0) ≤ nones kn
  | [], _ => Nat.le_refl _
  | x :: xs, kn => by
    have h1 := pOne_nones kn x
    have h2 := pRound_nones xs (pOne kn x).1
    rw [pRound]
    show nones (pRound (pOne kn x).1 xs).1 + (if ((pOne kn x).2.2 || (pRound (pOne kn x).1 xs).2.2) then 1 else 0) ≤ _
    cases e1 : (pOne kn x).2.2 <;> cases e2 : (pRound (pOne kn x).1 xs).2.2 <;> simp [e1, e2] at h1 h2 ⊢ <;> omega
/-- Nothing that came: all is as it was, and no symbol has one unknown. -/
theorem pRound_still : ∀ {xs : List Sm} {kn : Kn}, (pRound kn xs).2.2 = false → (pRound kn xs).1 = kn ∧ ∀ x ∈ xs, (miss (pickHas x.id.toNat kn.length) kn kn.length).length ≠ 1
  | [], _, _ => ⟨rfl, fun _ h => by cases h⟩
  | x :: xs, kn, h => by
    rw [pRound] at h ⊢
    obtain ⟨h1, h2⟩ := Bool.or_eq_false_iff.1 h
    obtain ⟨e, h3⟩ := pRound_still h2
    rcases pOne_cases kn x with ⟨a, _, _, _, _, e1⟩ | ⟨hm, e1⟩ | ⟨hm, e1⟩
    · rw [e1] at h1; cases h1
    · rw [e1] at e h3
      refine ⟨by show (pRound (pOne kn x).1 xs).1 = kn; rw [e1]; exact e, fun y hy => ?_⟩
      rcases List.mem_cons.1 hy with rfl | hy
      · omega
      · exact h3 y hy
    · rw [e1] at e h3
      refine ⟨by show (pRound (pOne kn x).1 xs).1 = kn; rw [e1]; exact e, fun y hy => ?_⟩
      rcases List.mem_cons.1 hy with rfl | hy
      · omega
      · exact h3 y hy
/-- What is left out has nothing unknown. -/
theorem pRound_drop : ∀ {xs : List Sm} {kn : Kn} {x : Sm}, x ∈ xs → x ∈ (pRound kn xs).2.1 ∨ (miss (pickHas x.id.toNat kn.length) (pRound kn xs).1 kn.length).length = 0
  | y :: xs, kn, x, h => by
    rw [pRound]
    show x ∈ (pOne kn y).2.1 ++ (pRound (pOne kn y).1 xs).2.1 ∨ (miss _ (pRound (pOne kn y).1 xs).1 _).length = 0
    rcases List.mem_cons.1 h with rfl | h
    · rcases pOne_cases kn x with ⟨a, hm, ha, _, _, e⟩ | ⟨_, e⟩ | ⟨hm, e⟩
      · right
        have h1 : ∀ k, (pOne kn x).1.isK k = true → (pRound (pOne kn x).1 xs).1.isK k = true := fun k hk => pRound_grows hk
        have h2 := miss_le (has := pickHas x.id.toNat kn.length) (m := kn.length) h1
        have h3 : (miss (pickHas x.id.toNat kn.length) (pOne kn x).1 kn.length) = [] := by
          rw [List.eq_nil_iff_forall_not_mem]
          intro k hk
          obtain ⟨k1, k2, k3⟩ := mem_miss.1 hk
          rw [e] at k3
          replace k3 : Kn.isK (kn.set a _) k = false := k3
          rw [isK_set ha, Bool.or_eq_false_iff] at k3
          have : k ∈ miss (pickHas x.id.toNat kn.length) kn kn.length := mem_miss.2 ⟨k1, k2, k3.1⟩
          rw [hm, List.mem_singleton] at this
          simp [this] at k3
        rw [h3] at h2
        simpa using h2
      · left; rw [e]; simp
      · right
        have h1 : ∀ k, kn.isK k = true → (pRound (pOne kn x).1 xs).1.isK k = true := fun k hk => pRound_grows (pOne_grows hk)
        have h2 := miss_le (has := pickHas x.id.toNat kn.length) (m := kn.length) h1
        omega
    · rcases pRound_drop (kn := (pOne kn y).1) h with h1 | h1
      · exact .inl (List.mem_append_right _ h1)
      · rw [pOne_len] at h1; exact .inr h1
theorem pRun_len : ∀ (f : Nat) (xs : List Sm) (kn : Kn), (pRun f kn xs).length = kn.length
  | 0, _, _ => rfl
  | f + 1, xs, kn => by
    rw [pRun]; split
    · rw [pRun_len f, pRound_len]
    · rw [pRound_len]
theorem pRun_grows : ∀ {f : Nat} {xs : List Sm} {kn : Kn} {k : Nat}, kn.isK k = true → (pRun f kn xs).isK k = true
  | 0, _, _, _, h => h
  | f + 1, xs, kn, k, h => by
    rw [pRun]; split
    · exact pRun_grows (pRound_grows h)
    · exact pRound_grows h
/-- In the end no symbol has one unknown. -/
theorem pRun_closed : ∀ {f : Nat} {xs : List Sm} {kn : Kn}, nones kn < f → ∀ x ∈ xs, (miss (pickHas x.id.toNat kn.length) (pRun f kn xs) kn.length).length ≠ 1
  | 0, _, _, h, _, _ => absurd h (Nat.not_lt_zero _)
  | f + 1, xs, kn, h, x, hx => by
    rw [pRun]
    have hn := pRound_nones xs kn
    cases hm : (pRound kn xs).2.2 with
    | true =>
      rw [hm] at hn
      simp at hn
      rw [if_pos rfl]
      rcases pRound_drop (kn := kn) hx with h1 | h1
      · have := pRun_closed (f := f) (xs := (pRound kn xs).2.1) (kn := (pRound kn xs).1) (by omega) x h1
        rw [pRound_len] at this
        exact this
      · have := miss_le (has := pickHas x.id.toNat kn.length) (kn := (pRound kn xs).1) (kn' := pRun f (pRound kn xs).1 (pRound kn xs).2.1) (m := kn.length) (fun k hk => pRun_grows hk)
        omega
    | false =>
      rw [if_neg (by simp)]
      obtain ⟨e, h1⟩ := pRound_still hm
      rw [e]
      exact h1 x hx
/-- Nothing is known that isn't in what is closed. -/
theorem pOne_in {T : Kn} {kn : Kn} {x : Sm} (hl : T.length = kn.length) (h : ∀ k, kn.isK k = true → T.isK k = true) (hx : (miss (pickHas x.id.toNat T.length) T T.length).length ≠ 1) : ∀ k, (pOne kn x).1.isK k = true → T.isK k = true := by
  intro k hk
  rcases pOne_cases kn x with ⟨a, hm, ha, hha, _, e⟩ | ⟨_, e⟩ | ⟨_, e⟩
  · rw [e] at hk
    replace hk : Kn.isK (kn.set a _) k = true := hk
    rw [isK_set ha, Bool.or_eq_true] at hk
    rcases hk with hk | hk
    · exact h k hk
    · obtain rfl := of_decide_eq_true hk
      rw [hl] at hx
      have h2 := miss_le (has := pickHas x.id.toNat kn.length) (m := kn.length) h
      rw [hm] at h2
      have h3 : (miss (pickHas x.id.toNat kn.length) T kn.length) = [] := List.length_eq_zero_iff.1 (by simp at h2; omega)
      cases e2 : T.isK k with
      | true => rfl
      | false =>
        have : k ∈ miss (pickHas x.id.toNat kn.length) T kn.length := mem_miss.2 ⟨ha, hha, e2⟩
        rw [h3] at this; cases this
  · rw [e] at hk; exact h k hk
  · rw [e] at hk; exact h k hk
theorem pRound_in {T : Kn} : ∀ {xs : List Sm} {kn : Kn}, T.length = kn.length → (∀ k, kn.isK k = true → T.isK k = true) → (∀ x ∈ xs, (miss (pickHas x.id.toNat T.length) T T.length).length ≠ 1) → ∀ k, (pRound kn xs).1.isK k = true → T.isK k = true
  | [], _, _, h, _ => h
  | x :: xs, kn, hl, h, hx => pRound_in (xs := xs) (by rw [pOne_len]; exact hl) (pOne_in hl h (hx x (by simp))) fun y hy => hx y (List.mem_cons_of_mem _ hy)
theorem pRun_in {T : Kn} : ∀ {f : Nat} {xs : List Sm} {kn : Kn}, T.length = kn.length → (∀ k, kn.isK k = true → T.isK k = true) → (∀ x ∈ xs, (miss (pickHas x.id.toNat T.length) T T.length).length ≠ 1) → ∀ k, (pRun f kn xs).isK k = true → T.isK k = true
  | 0, _, _, _, h, _ => h
  | f + 1, xs, kn, hl, h, hx => by
    intro k hk
    rw [pRun] at hk
    split at hk
    · exact pRun_in (f := f) (by rw [pRound_len]; exact hl) (pRound_in hl h hx) (fun y hy => hx y (pRound_left hy)) k hk
    · exact pRound_in hl h hx k hk
theorem length_peelF (b : Nat) (xs : List Sm) : (peelF b xs).length = b := by unfold peelF; rw [pRun_len]; simp
/-- With more symbols no less is known. -/
theorem peel_more {b : Nat} {xs ys : List Sm} (hle : ∀ x ∈ xs, x ∈ ys) {k : Nat} (h : (peelF b xs).isK k = true) : (peelF b ys).isK k = true := by
  refine pRun_in (T := peelF b ys) (by rw [length_peelF]; simp) (fun k hk => ?_) (fun x hx => ?_) k h
  · obtain ⟨l, hk⟩ := isK_iff.1 hk
    rw [List.getElem?_replicate] at hk
    split at hk <;> cases hk
  · rw [length_peelF]
    have := pRun_closed (f := b + 1) (xs := ys) (kn := List.replicate b none) (by unfold nones; rw [List.countP_replicate]; simp) x (hle x hx)
    unfold peelF
    simpa using this

/-- The row that says a block. -/
def uv (k : Nat) (x : List UInt8) : Vc := ⟨fun i => decide (i = k), fun i => x.getD i 0⟩
/-- Each block that is known is told by the symbols. -/
def Says (G : Vc → Prop) (kn : Kn) : Prop := ∀ (k : Nat) x, kn[k]? = some (some x) → Span G (uv k x)
theorem got_span {G : Vc → Prop} (h0 : Span G Vc.zero) {kn : Kn} (h : Says G kn) (has : List Bool) : ∀ m, ∃ v, Span G v ∧ (∀ i, v.h i = (decide (i < m) && has.getD i false && kn.isK i)) ∧ ∀ i, v.d i = (got has kn m).foldr (fun l a => l.getD i 0 ^^^ a) 0
  | 0 => ⟨Vc.zero, h0, fun i => by simp [Vc.zero], fun i => rfl⟩
  | m + 1 => by
    obtain ⟨v, h1, h2, h3⟩ := got_span h0 h has m
    have hf : ∀ (l : List (List UInt8)) (y : List UInt8) (i : Nat), (l ++ [y]).foldr (fun l a => l.getD i 0 ^^^ a) 0 = (l.foldr (fun l a => l.getD i 0 ^^^ a) 0 ^^^ y.getD i 0) := by
      intro l y i
      induction l with
      | nil => simp
      | cons z l ih => simp only [List.cons_append, List.foldr_cons, ih, UInt8.xor_assoc]
    by_cases hh : has.getD m false = true ∧ kn.isK m = true
    · obtain ⟨x, hx⟩ := isK_iff.1 hh.2
      refine ⟨v + uv m x, h1.plus (h m x hx), fun i => ?_, fun i => ?_⟩
      · rw [Vc.add_h, h2]
        show (_ ^^ decide (i = m)) = _
        rcases Nat.lt_trichotomy i m with h4 | h4 | h4
        · simp [h4, show i < m + 1 by omega, show i ≠ m by omega]
        · subst h4; simp only [hh.1, hh.2, Nat.lt_irrefl, decide_false, Bool.false_and, decide_true]; simp
        · simp [show ¬ i < m by omega, show ¬ i < m + 1 by omega, show i ≠ m by omega]
      · have e : kn.getD m none = some x := by rw [List.getD_eq_getElem?_getD, hx]; rfl
        rw [Vc.add_d, h3, got_succ, hh.1, if_pos rfl, e]
        show _ = (got has kn m ++ [x]).foldr _ 0
        rw [hf]; rfl
    · refine ⟨v, h1, fun i => ?_, fun i => ?_⟩
      · rw [h2]
        rcases Nat.lt_trichotomy i m with h4 | h4 | h4
        · simp [h4, show i < m + 1 by omega]
        · subst h4
          have : (has.getD i false && kn.isK i) = false := by
            cases e1 : has.getD i false <;> cases e2 : kn.isK i <;> simp_all
          simp only [Bool.and_assoc, this, Bool.and_false]
        · simp [show ¬ i < m by omega, show ¬ i < m + 1 by omega]
      · rw [h3, got_succ]
        have : (if has.getD m false = true then (kn.getD m none).toList else []) = [] := by
          split
          · rename_i h5
            have h6 : kn.isK m = false := by
              cases e2 : kn.isK m
              · rfl
              · exact absurd ⟨h5, e2⟩ hh
            unfold Kn.isK at h6
            cases e3 : kn.getD m none with
            | none => rfl
            | some y => rw [e3] at h6; cases h6
          · rfl
        rw [this, List.append_nil]
/-- What a symbol tells with what is known. -/
theorem told_facts {K : Nat} (hK : 1 ≤ K ∧ K ≤ 16) {kn : Kn} (hl : KnLen K kn) (has : List Bool) {d : List UInt8} (hd : d.length = K) :
    sumAdd (d :: got has kn kn.length) = (told has d kn, 0) ∧ (told has d kn).length = K ∧ ∀ i, (told has d kn).getD i 0 = (d.getD i 0 ^^^ (got has kn kn.length).foldr (fun l a => l.getD i 0 ^^^ a) 0) := by
  have hall : ∀ l ∈ d :: got has kn kn.length, l.length = K := by
    intro l hl2
    rcases List.mem_cons.1 hl2 with rfl | hl2
    · exact hd
    · obtain ⟨k, hk⟩ := got_mem hl2
      exact hl k l hk
  have hc : sumCheck (d :: got has kn kn.length) = 0 := by
    unfold sumCheck
    exact sumCheckFrom_of (n0 := K) (by omega) (by omega) hall |> (by rw [List.headD_cons, hd]; exact ·)
  have e : sumAdd (d :: got has kn kn.length) = (xorAll K (d :: got has kn kn.length), 0) := by
    rw [sumAdd, if_neg (by simp [hc]), if_neg (by simp), List.headD_cons, hd]
  have et : told has d kn = xorAll K (d :: got has kn kn.length) := by unfold told; rw [e]
  refine ⟨by rw [e, et], by rw [et]; exact length_xorAll hall (by simp [zeros]), fun i => ?_⟩
  rw [et]
  unfold xorAll
  rw [foldl_getD _ _ hall (by simp [zeros])]
  have : (zeros K).getD i 0 = 0 := by unfold zeros; simp [List.getD_eq_getElem?_getD, List.getElem?_replicate]; split <;> rfl
  rw [this, UInt8.zero_xor, List.foldr_cons]
/-- Symbols of a plan. -/
def SmFit (K : Nat) (xs : List Sm) : Prop := ∀ x ∈ xs, x.data.length = K
theorem pOne_knLen {K : Nat} (hK : 1 ≤ K ∧ K ≤ 16) {kn : Kn} (hl : KnLen K kn) {x : Sm} (hx : x.data.length = K) : KnLen K (pOne kn x).1 := by
  rcases pOne_cases kn x with ⟨a, hm, ha, hha, _, e⟩ | ⟨_, e⟩ | ⟨_, e⟩
  · rw [e]
    intro k l hk
    replace hk : (kn.set a _)[k]? = some (some l) := hk
    rw [List.getElem?_set] at hk
    split at hk
    · simp [ha] at hk
      rw [← hk]; exact (told_facts hK hl _ hx).2.1
    · exact hl k l hk
  · rw [e]; exact hl
  · rw [e]; exact hl
theorem pOne_says {K : Nat} (hK : 1 ≤ K ∧ K ≤ 16) {G : Vc → Prop} (h0 : Span G Vc.zero) {kn : Kn} (hl : KnLen K kn) (h : Says G kn) {x : Sm} (hx : x.data.length = K) (hG : G (vc (symRow kn.length x))) : Says G (pOne kn x).1 := by
  rcases pOne_cases kn x with ⟨a, hm, ha, hha, hak, e⟩ | ⟨_, e⟩ | ⟨_, e⟩
  · rw [e]
    intro k l hk
    replace hk : (kn.set a _)[k]? = some (some l) := hk
    rw [List.getElem?_set] at hk
    split at hk
    · rename_i hka
      subst hka
      simp [ha] at hk
      obtain ⟨v, hv, v1, v2⟩ := got_span h0 h (pickHas x.id.toNat kn.length) kn.length
      have : uv a l = vc (symRow kn.length x) + v := by
        refine Vc.ext' (fun i => ?_) fun i => ?_
        · rw [Vc.add_h, v1]
          show decide (i = a) = ((pickHas x.id.toNat kn.length).getD i false ^^ _)
          have hmem : (i ∈ miss (pickHas x.id.toNat kn.length) kn kn.length) ↔ i = a := by rw [hm, List.mem_singleton]
          rw [mem_miss] at hmem
          by_cases hi : i = a
          · subst hi; rw [hha, hak]; simp
          · have hlt : (pickHas x.id.toNat kn.length).getD i false = true → i < kn.length := by
              intro hp
              rw [List.getD_eq_getElem?_getD] at hp
              rcases Nat.lt_or_ge i kn.length with h1 | h1
              · exact h1
              · rw [List.getElem?_eq_none (by rw [length_pickHas]; exact h1)] at hp; cases hp
            cases e1 : (pickHas x.id.toNat kn.length).getD i false with
            | false => simp [hi]
            | true =>
              have h1 := hlt e1
              cases e2 : kn.isK i with
              | true => simp [h1, hi]
              | false => exact absurd (hmem.1 ⟨h1, e1, e2⟩) hi
        · rw [Vc.add_d, v2]
          show l.getD i 0 = _
          rw [← hk]; exact (told_facts hK hl _ hx).2.2 i
      rw [this]
      exact (Span.of hG).plus hv
    · exact h k l hk
  · rw [e]; exact h
  · rw [e]; exact h
structure Good (b K : Nat) (G : Vc → Prop) (kn : Kn) : Prop where
  len : kn.length = b
  all : KnLen K kn
  says : Says G kn
theorem pRound_good {b K : Nat} (hK : 1 ≤ K ∧ K ≤ 16) {G : Vc → Prop} (h0 : Span G Vc.zero) : ∀ {xs : List Sm} {kn : Kn}, Good b K G kn → (∀ x ∈ xs, x.data.length = K ∧ G (vc (symRow b x))) → Good b K G (pRound kn xs).1
  | [], _, h, _ => h
  | x :: xs, kn, h, hx => by
    obtain ⟨h1, h2⟩ := hx x (by simp)
    refine pRound_good hK h0 (xs := xs) ⟨(pOne_len kn x).trans h.len, pOne_knLen hK h.all h1, pOne_says hK h0 h.all h.says h1 (by rw [h.len]; exact h2)⟩ fun y hy => hx y (List.mem_cons_of_mem _ hy)
theorem pRun_good {b K : Nat} (hK : 1 ≤ K ∧ K ≤ 16) {G : Vc → Prop} (h0 : Span G Vc.zero) : ∀ {f : Nat} {xs : List Sm} {kn : Kn}, Good b K G kn → (∀ x ∈ xs, x.data.length = K ∧ G (vc (symRow b x))) → Good b K G (pRun f kn xs)
  | 0, _, _, h, _ => h
  | f + 1, xs, kn, h, hx => by
    rw [pRun]; split
    · exact pRun_good hK h0 (pRound_good hK h0 h hx) fun y hy => hx y (pRound_left hy)
    · exact pRound_good hK h0 h hx
theorem good_none (b K : Nat) (G : Vc → Prop) : Good b K G (List.replicate b none) := by
  have : ∀ (k : Nat) (x : List UInt8), ¬ (List.replicate b (none : Option (List UInt8)))[k]? = some (some x) := fun k x h => by
    rw [List.getElem?_replicate] at h
    split at h <;> cases h
  exact ⟨by simp, fun k l h => absurd h (this k l), fun k x h => absurd h (this k x)⟩
theorem knLen_of {b K : Nat} (hK : 1 ≤ K ∧ K ≤ 16) {xs : List Sm} (hx : SmFit K xs) : KnLen K (peelF b xs) :=
  (pRun_good (G := fun _ => True) hK (.of trivial) (good_none b K _) fun x h => ⟨hx x h, trivial⟩).all
theorem peel_good {B K : Nat} {c : List UInt8} {xs : List Sm} (h : SymsOk B K c xs) (hne : xs ≠ []) : Good (cutF K B c).length K (GS (cutF K B c).length xs) (peelF (cutF K B c).length xs) := by
  obtain ⟨q1, q2, q3, hall, hK⟩ := cutF_facts h.cut h.len
  obtain ⟨x, hx⟩ := List.exists_mem_of_ne_nil _ hne
  have h1 : Span (GS (cutF K B c).length xs) (vc (symRow (cutF K B c).length x)) := .of ⟨x, hx, rfl⟩
  have h0 : Span (GS (cutF K B c).length xs) Vc.zero := by rw [← Vc.self (vc (symRow (cutF K B c).length x))]; exact h1.plus h1
  exact pRun_good hK h0 (good_none _ _ _) fun y hy => ⟨(h.hold y hy).1.2, y, hy, rfl⟩
theorem peel_empty (b : Nat) : peelF b [] = List.replicate b none := by
  unfold peelF pRun
  rw [pRound]; rfl
/-- What is known is true. -/
theorem peel_true {B K : Nat} {c : List UInt8} {xs : List Sm} (h : SymsOk B K c xs) {k : Nat} {x : List UInt8} (hk : (peelF (cutF K B c).length xs)[k]? = some (some x)) : (cutF K B c)[k]? = some x := by
  by_cases hne : xs = []
  · rw [hne, peel_empty, List.getElem?_replicate] at hk
    split at hk <;> cases hk
  · obtain ⟨q1, q2, q3, hall, hK⟩ := cutF_facts h.cut h.len
    have hg := peel_good h hne
    have hlt : k < (cutF K B c).length := by
      have := (List.getElem?_eq_some_iff.1 hk).1
      rw [hg.len] at this; exact this
    have hh : Hold (cutF K B c) (uv k x) := Hold.span (fun g ⟨y, hy, e⟩ => by rw [e]; exact (h.hold y hy).2.1) (hg.says k x hk)
    have hx : x = (cutF K B c)[k] := by
      refine list_ext_getD (d := 0) (by rw [hg.all k x hk, hall _ (List.getElem_mem hlt)]) fun i => ?_
      have := hh i
      rw [evf_unit i (cutF K B c) (uv k x).h k (by simp [uv]) (fun j hj => by simp [uv, hj]), show (cutF K B c).getD k [] = (cutF K B c)[k] from by rw [List.getD_eq_getElem?_getD, List.getElem?_eq_getElem hlt]; rfl] at this
      exact this
    rw [List.getElem?_eq_getElem hlt, hx]
/-- Where all is known so, the cargo is. -/
theorem peel_whole {B K : Nat} {c : List UInt8} {xs : List Sm} (h : SymsOk B K c xs) (hw : ∀ k, k < (cutF K B c).length → (peelF (cutF K B c).length xs).isK k = true) : decodeF B K xs = (c, 0) := by
  obtain ⟨q1, q2, q3, hall, hK⟩ := cutF_facts h.cut h.len
  have hne : xs ≠ [] := by
    rintro rfl
    have := hw 0 (by omega)
    rw [peel_empty] at this
    obtain ⟨l, this⟩ := isK_iff.1 this
    rw [List.getElem?_replicate] at this
    split at this <;> cases this
  have hg := peel_good h hne
  obtain ⟨rows, hm, e⟩ := h.rows
  have hlen : (cutF K B c).length ≤ rows.length := by
    have hn : (List.range (cutF K B c).length).Nodup := List.nodup_range
    have := nodup_le hn (m := (pl rows).map (·.1)) fun k hk => by
      have hk := List.mem_range.1 hk
      obtain ⟨x, hx⟩ := isK_iff.1 (hw k hk)
      have hs : Sp (pl rows) (uv k x) := (hm.span _).2 (hg.says k x hx)
      have hl : Lead (uv k x) k := ⟨by simp [uv], fun j hj => by simp [uv]; omega⟩
      obtain ⟨a, ha, ea⟩ := span_lead hm.sys.ech hs hl
      exact List.mem_map.2 ⟨a, ha, ea⟩
    simpa [pl] using this
  rw [e, if_neg (by omega)]
end Go.Proofs.Ytnfjghldcopaaaa
namespace Go.Proofs.Ytnfjghldcopaaaa
open Go.RowKit

/-- What is known of a block, as its cell. -/
def KnV (K : Nat) (w : World) (S : Nat → Prop) (v : Value) (x : Option (List UInt8)) : Prop :=
  (x = none ∧ v = .slice none 0 0) ∨ ∃ l ad c, x = some l ∧ v = .slice (some ad) K c ∧ (K ≤ c ∧ c ≤ maxLen) ∧ Sl 1 eByte w S (some ad) K l
theorem KnV.chg {K : Nat} {w w' : World} {S T : Nat → Prop} {v : Value} {x : Option (List UInt8)} (h : KnV K w S v x) (k : Chg T w w') (hd : ∀ b, S b → b < w.heap.size ∧ ¬ T b) : KnV K w' S v x := by
  rcases h with h | ⟨l, ad, c, h1, h2, h3, h4⟩
  · exact .inl h
  · exact .inr ⟨l, ad, c, h1, h2, h3, h4.chg sByte k hd⟩
theorem KnV.more {K : Nat} {w : World} {S T : Nat → Prop} {v : Value} {x : Option (List UInt8)} (h : KnV K w S v x) (hd : ∀ b, S b → T b) : KnV K w T v x := by
  rcases h with h | ⟨l, ad, c, h1, h2, h3, h4⟩
  · exact .inl h
  · exact .inr ⟨l, ad, c, h1, h2, h3, h4.more sByte hd⟩
/-- What is known, as a row of cells. -/
def KnM (K : Nat) (w : World) (S : Nat → Prop) (g : Nat) (kn : Kn) : Prop :=
  ∃ vs : List Value, w.heap[g]? = some (.cells vs.toArray 27 (0, 0)) ∧ vs.length = kn.length ∧ ∀ (i : Nat) (x : Option (List UInt8)), kn[i]? = some x → ∃ v, vs[i]? = some v ∧ KnV K w S v x
theorem KnM.lt {K : Nat} {w : World} {S : Nat → Prop} {g : Nat} {kn : Kn} (h : KnM K w S g kn) : g < w.heap.size := by
  obtain ⟨vs, h, _⟩ := h
  exact (Array.getElem?_eq_some_iff.1 h).1
theorem KnM.chg {K : Nat} {w w' : World} {S T : Nat → Prop} {g : Nat} {kn : Kn} (h : KnM K w S g kn) (k : Chg T w w') (hg : ¬ T g) (hd : ∀ b, S b → b < w.heap.size ∧ ¬ T b) : KnM K w' S g kn := by
  obtain ⟨vs, h1, h2, h3⟩ := h
  exact ⟨vs, k.blk h1 hg, h2, fun i x hx => by obtain ⟨v, hv, hk⟩ := h3 i x hx; exact ⟨v, hv, hk.chg k hd⟩⟩
theorem KnM.fr {K : Nat} {w w' : World} {S : Nat → Prop} {g : Nat} {kn : Kn} (h : KnM K w S g kn) (k : Fr w w') (hd : ∀ b, S b → b < w.heap.size) : KnM K w' S g kn :=
  h.chg (T := fun _ => False) k.chg (fun e => e) fun b hb => ⟨hd b hb, fun e => e⟩
theorem KnM.more {K : Nat} {w : World} {S T : Nat → Prop} {g : Nat} {kn : Kn} (h : KnM K w S g kn) (hd : ∀ b, S b → T b) : KnM K w T g kn := by
  obtain ⟨vs, h1, h2, h3⟩ := h
  exact ⟨vs, h1, h2, fun i x hx => by obtain ⟨v, hv, hk⟩ := h3 i x hx; exact ⟨v, hv, hk.more hd⟩⟩
theorem KnM.free {K : Nat} {w : World} {S : Nat → Prop} {g i : Nat} {kn : Kn} (h : KnM K w S g kn) : w.frozen? ⟨g, i, none⟩ = false := by
  obtain ⟨vs, h, _⟩ := h
  exact blk_free h
theorem KnM.get {K : Nat} {w : World} {S : Nat → Prop} {g i : Nat} {kn : Kn} (h : KnM K w S g kn) (hi : i < kn.length) : ∃ x v, kn[i]? = some x ∧ w.cell? ⟨g, i, none⟩ = some v ∧ KnV K w S v x := by
  obtain ⟨vs, h1, h2, h3⟩ := h
  obtain ⟨v, hv, hk⟩ := h3 i _ (List.getElem?_eq_getElem hi)
  exact ⟨_, v, List.getElem?_eq_getElem hi, by rw [cell_of_heap h1, List.getElem?_toArray]; exact hv, hk⟩
theorem KnM.set {K : Nat} {w : World} {S : Nat → Prop} {g i c : Nat} {ad : Addr} {l : List UInt8} {kn : Kn} (h : KnM K w S g kn) (hS : ¬ S g) (hi : i < kn.length) (hc : K ≤ c ∧ c ≤ maxLen) (hl : Sl 1 eByte w S (some ad) K l) :
    KnM K (w.setCell ⟨g, i, none⟩ (.slice (some ad) K c)) S g (kn.set i (some l)) := by
  obtain ⟨vs, h1, h2, h3⟩ := h
  have hk : ∀ p : Addr, S p.block → (w.setCell ⟨g, i, none⟩ (.slice (some ad) K c)).cell? p = w.cell? p := fun p hp => World.cell?_setCell_other w _ p _ fun e => by subst e; exact hS hp
  refine ⟨vs.set i (.slice (some ad) K c), ?_, by simp [h2], fun j x hx => ?_⟩
  · simp [World.setCell, Array.getElem?_modify, h1]
  · rw [List.getElem?_set] at hx
    split at hx
    · rename_i e
      subst e
      injection hx with hx
      exact ⟨_, List.getElem?_set_self (by omega), .inr ⟨l, ad, c, hx.symm, rfl, hc, hl.keep sByte hk⟩⟩
    · rename_i e
      obtain ⟨v, hv, hkv⟩ := h3 j x hx
      refine ⟨v, by rw [List.getElem?_set_ne e]; exact hv, ?_⟩
      rcases hkv with h | ⟨l', ad', c', q1, q2, q3, q4⟩
      · exact .inl h
      · exact .inr ⟨l', ad', c', q1, q2, q3, q4.keep sByte hk⟩

/-- 's == nil'. -/
theorem wpList_nil {P : Program} {w : World} {ops : Array Oper} {rest : List Oper} {o : Oper} {a : Act} {Q : Exit → Act → World → Prop} (hw : Region.wanted o (yielded ops a.tmps) = true) (s : Operand) (t t' e : TypeId) (ho : o.op = .binOp .eql t s (.const (.slice none 0 0)) t') (ht : P.underlying t = some (.slice e)) {A : Option Addr} {n c : Nat} (hs : a.eval s = .slice A n c) (x : Bool) (hx : A.isNone = x)
    (h : wpList P ops Q rest (a.put o.dst (.bool x)) w) : wpList P ops Q (o :: rest) a w := by
  refine wpList_step fun K hK => ?_
  rw [if_pos hw]
  have h1 : a.eval (.const (.slice none 0 0)) = .slice none 0 0 := rfl
  have h2 : (eqGuard .eql t s (.const (.slice none 0 0)) (.slice A n c) (.slice none 0 0)) = pure () := rfl
  have h3 : (binOp .eql t (.slice A n c) (.slice none 0 0)).run P w = .ok (.bool A.isNone) w := run_eql_slice_nil w t e A n c ht
  unfold Oper.wp execOp
  simp only [ho]
  rw [hs, h1, h2]
  simp only [Sem.run_bind, Sem.run_pure, Result.andThen_ok, h3]
  subst hx
  exact hK _ _ h

/-- 's != nil'. -/
theorem wpList_nnil {P : Program} {w : World} {ops : Array Oper} {rest : List Oper} {o : Oper} {a : Act} {Q : Exit → Act → World → Prop} (hw : Region.wanted o (yielded ops a.tmps) = true) (s : Operand) (t t' e : TypeId) (ho : o.op = .binOp .neq t s (.const (.slice none 0 0)) t') (ht : P.underlying t = some (.slice e)) {A : Option Addr} {n c : Nat} (hs : a.eval s = .slice A n c) (x : Bool) (hx : (!A.isNone) = x)
    (h : wpList P ops Q rest (a.put o.dst (.bool x)) w) : wpList P ops Q (o :: rest) a w := by
  refine wpList_step fun K hK => ?_
  rw [if_pos hw]
  have h1 : a.eval (.const (.slice none 0 0)) = .slice none 0 0 := rfl
  have h2 : (eqGuard .neq t s (.const (.slice none 0 0)) (.slice A n c) (.slice none 0 0)) = pure () := rfl
  have h3 : (binOp .neq t (.slice A n c) (.slice none 0 0)).run P w = .ok (.bool (!A.isNone)) w := run_neq_slice_nil w t e A n c ht
  unfold Oper.wp execOp
  simp only [ho]
  rw [hs, h1, h2]
  simp only [Sem.run_bind, Sem.run_pure, Result.andThen_ok, h3]
  subst hx
  exact hK _ _ h

section
variable {α : Type} {size : Nat} {r : ERd α}
theorem eLow_iff {N : Nat} {w : World} {S : Nat → Prop} {f : Nat → Option Value} {x : α} : eLow N r w S f x ↔ r w (fun b => S b ∧ b < N) f x := Iff.rfl
/-- A store between turns nothing of an own slice whose elements lie below. -/
theorem Own.lowChg {N base : Nat} {w w' : World} {e : TypeId} {v : Value} {xs : List α} {T : Nat → Prop} (s : Stable size r) (h : Own size (eLow N r) w base e v xs) (k : Chg T w w') (hT : ∀ b, T b → N ≤ b ∧ b < base) : Own size (eLow N r) w' base e v xs := by
  obtain ⟨cs, ho, hr⟩ := h
  refine ⟨cs, ⟨ho.1, ?_⟩, fun i x hx => ?_⟩
  · rcases ho.2 with h0 | ⟨g, cap, cur, h1, h2, h3, h4⟩
    · exact .inl h0
    · exact .inr ⟨g, cap, cur, h1, h2, k.blk h3 (fun e => by have := hT g e; omega), h4⟩
  · exact s.more (fun b hb => ⟨⟨Nat.lt_of_lt_of_le hb.1.1 k.size, hb.1.2⟩, hb.2⟩) (s.keep (fun p hp => k.cell hp.1.1 fun e => by have := hT _ e; have := hp.2; omega) (hr i x hx))
/-- It reads as a list, off what lies below and what is its own. -/
theorem Own.lowOut {N base : Nat} {w : World} {e : TypeId} {v : Value} {xs : List α} (s : Stable size r) (h : Own size (eLow N r) w base e v xs) : ∃ A c, v = .slice A xs.length c ∧ (xs.length ≤ c ∧ c ≤ maxLen) ∧ Sl size (eLow N r) w (fun b => b < w.heap.size ∧ (b < N ∨ base ≤ b)) A xs.length xs := by
  obtain ⟨cs, ho, hr⟩ := h
  rcases ho.2 with ⟨rfl, h0⟩ | ⟨g, cap, cur, rfl, hbg, hg, hnc, hcm, hcs, htake⟩
  · exact ⟨none, 0, by rw [h0], ⟨by omega, by unfold maxLen; omega⟩, rfl, fun hn => by omega⟩
  · refine ⟨some ⟨g, 0, none⟩, cap, rfl, ⟨hnc, hcm⟩, rfl, fun hn => ⟨_, rfl, ⟨(Array.getElem?_eq_some_iff.1 hg).1, .inr hbg⟩, fun i x hx => ?_⟩⟩
    refine s.mono (fun j u hj hu => ?_) (s.more (fun b hb => ⟨⟨hb.1.1, .inl hb.2⟩, hb.2⟩) (hr i x hx))
    rw [zero_add_addr, cell_of_heap hg]
    rw [← htake, List.getElem?_take] at hu
    split at hu
    · simpa using hu
    · cases hu
theorem Own.lt {base : Nat} {w : World} {e : TypeId} {v : Value} {xs : List α} (h : Own size r w base e v xs) {b : Nat} (hb : v.ownBlock = some b) : base ≤ b ∧ b < w.heap.size := by
  obtain ⟨cs, ho, _⟩ := h
  exact ho.lt b hb
theorem Own.isSl {base : Nat} {w : World} {e : TypeId} {v : Value} {xs : List α} (h : Own size r w base e v xs) : ∃ A n c, v = .slice A n c := by
  obtain ⟨cs, ho, _⟩ := h
  rcases ho.2 with ⟨h0, _⟩ | ⟨g, cap, cur, h0, _⟩
  · exact ⟨_, _, _, h0⟩
  · exact ⟨_, _, _, h0⟩
/-- One element laid alone. -/
theorem own_one {base : Nat} {w : World} {e : TypeId} {b : Nat} {vs : List Value} {y : α} (s : Stable size r) (hb : base ≤ b) (h : w.heap[b]? = some (.cells vs.toArray e (0, 0))) (hl : vs.length = size) (hy : r w (fun x => x < w.heap.size ∧ x ≠ b) (fun j => vs[j]?) y) :
    Own size r w base e (.slice (some ⟨b, 0, none⟩) 1 1) [y] := by
  refine ⟨vs, ⟨by simp [hl], .inr ⟨b, 1, vs.toArray, by simp, hb, h, by simp, by unfold maxLen; omega, by simp [hl], by simp [← hl]⟩⟩, fun i x hx => ?_⟩
  obtain rfl : i = 0 := by have := (List.getElem?_eq_some_iff.1 hx).1; simp at this; omega
  obtain rfl : y = x := by simpa using hx
  simp only [Nat.zero_mul, Nat.zero_add]
  exact s.more (fun x hx => ⟨hx.1, fun e => hx.2 (by simp [Value.ownBlock] at e; exact e.symm)⟩) hy

theorem app_o {P : Program} {W0 W1 : World} {base e b t ty : TypeId} {news : List Value} {te : TypeId} {v : Value} {xs : List α} {y : α} {fr : Nat × Nat} {i : TypeInfo} {z : Value} {bytes : Nat} (st : Stable size r) (ht : P.underlying t = some (.slice e)) (hi1 : P.info? e = some i) (hi2 : i.zero = some z) (hi3 : i.size = size) (hi4 : i.bytes = bytes)
    (hzs : z.cells.size = size) (hsz : 0 < size) (hown : Own size r W0 base e v xs) (hf : Fr W0 W1) (hblk : W1.heap[b]? = some (.cells news.toArray te fr)) (hl : news.length = size) (h1 : ∀ u ∈ news, u.oneCell' = true)
    (hy : r W0 (fun b => b < W0.heap.size ∧ v.ownBlock ≠ some b) (fun j => news[j]?) y) (h63 : xs.length + 1 ≤ maxLen) (hbytes : (xs.length + 1) * bytes ≤ lim) (hbase : base ≤ W0.heap.size) :
    ∃ v' w', (Builtin.append_ #[t, t] ty #[v, .slice (some ⟨b, 0, none⟩) 1 1]).run P W1 = .ok v' w' ∧ Own size r w' base e v' (xs ++ [y]) ∧ Chg (fun k => v.ownBlock = some k) W0 w' ∧ ∀ k, v'.ownBlock = some k → v.ownBlock = some k ∨ W0.heap.size ≤ k := by
  obtain ⟨q1, q2, q3⟩ := app1_pre (P := P) st hown hf hblk hl hy
  obtain ⟨cs, hrow, hr⟩ := q1
  obtain ⟨v', w', hrun, g2, g3, g4, g5⟩ := run_append_own_at (P := P) W1 base t ty e i z size bytes ht hi1 hi2 hi3 hi4 hzs hsz v xs.length cs hrow ⟨b, 0, none⟩ 1 1 news (by rw [Nat.one_mul]; exact hl) q2 h1 h63 hbytes (Nat.le_trans hbase hf.size)
  have hg : Chg (fun k => v.ownBlock = some k) W1 w' := ⟨g3.os, g3.tape, g3.output, g3.size, fun k hk hs => g3.block k hk fun e => hs e.symm⟩
  refine ⟨v', w', hrun, own_apps st hr hrow.1 rfl q3 g2 g3 g5, hf.chg.trans hg, fun k hk => ?_⟩
  rcases g5 with g5 | g5
  · exact .inl (g5.symm.trans hk)
  · rw [g5] at hk
    injection hk with hk
    exact .inr (by rw [← hk]; exact hf.size)
/-- 'append(v, y)' as wpList_app1 has it; and where what is new lies. -/
theorem wpList_app1o {P : Program} {W1 : World} {ops : Array Oper} {rest : List Oper} {o : Oper} {a : Act} {Q : Exit → Act → World → Prop} (hgd : o.guard = none) (s x : Operand) (t : TypeId)
    (ho : o.op = .call { callee := .builtin .append, args := #[s, x], argTypes := #[t, t] })
    (base : Nat) (e : TypeId) (z : Value) (bytes : Nat) (ht : P.underlying t = some (.slice e)) (hi : (P.info? e).map (fun i => (i.zero, i.size, i.bytes)) = some (some z, size, bytes))
    (hzs : z.cells.size = size) (hsz : 0 < size) (st : Stable size r)
    (W0 : World) (hf : Fr W0 W1) (v : Value) (xs : List α) (hs : a.eval s = v) (hown : Own size r W0 base e v xs)
    (b : Nat) (news : List Value) (te : TypeId) (fr : Nat × Nat) (hx : a.eval x = .slice (some ⟨b, 0, none⟩) 1 1) (hblk : W1.heap[b]? = some (.cells news.toArray te fr)) (hl : news.length = size) (h1 : ∀ u ∈ news, u.oneCell' = true)
    (y : α) (hy : r W0 (fun b => b < W0.heap.size ∧ v.ownBlock ≠ some b) (fun j => news[j]?) y)
    (h63 : xs.length + 1 ≤ maxLen) (hbytes : (xs.length + 1) * bytes ≤ lim) (hbase : base ≤ W0.heap.size)
    (h : ∀ v' w', Hid (Own size r w' base e v' (xs ++ [y])) → Hid (Chg (fun k => v.ownBlock = some k) W0 w') → Hid (∀ k, v'.ownBlock = some k → v.ownBlock = some k ∨ W0.heap.size ≤ k) → wpList P ops Q rest (a.put o.dst v') w') : wpList P ops Q (o :: rest) a W1 := by
  obtain ⟨i, hi1, hi2⟩ := Option.map_eq_some_iff.1 hi
  simp only [Prod.mk.injEq] at hi2
  refine wpList_plain hgd fun K hK => ?_
  obtain ⟨v', w', hrun, k1, k2, k3⟩ := app_o (P := P) (ty := o.type) st ht hi1 hi2.1 hi2.2.1 hi2.2.2 hzs hsz hown hf hblk hl h1 hy h63 hbytes hbase
  unfold Oper.wp execOp
  simp only [ho, resolve, invoke, builtin, Sem.run_bind, Sem.run_pure, Result.andThen_ok, List.map_toArray, List.map_cons, List.map_nil, hs, hx, hrun]
  exact hK _ _ (h v' w' k1 k2 k3)
/-- The same as a step of a region that draws its order. -/
theorem step_app1o {P : Program} {W1 : World} {ops : Array Oper} {o : Oper} {a : Act} {K : Act → World → Prop} {Q : Exit → Act → World → Prop} {E : Prop} (hgd : o.guard = none) (s x : Operand) (t : TypeId)
    (ho : o.op = .call { callee := .builtin .append, args := #[s, x], argTypes := #[t, t] })
    (base : Nat) (e : TypeId) (z : Value) (bytes : Nat) (ht : P.underlying t = some (.slice e)) (hi : (P.info? e).map (fun i => (i.zero, i.size, i.bytes)) = some (some z, size, bytes))
    (hzs : z.cells.size = size) (hsz : 0 < size) (st : Stable size r)
    (W0 : World) (hf : Fr W0 W1) (v : Value) (xs : List α) (hs : a.eval s = v) (hown : Own size r W0 base e v xs)
    (b : Nat) (news : List Value) (te : TypeId) (fr : Nat × Nat) (hx : a.eval x = .slice (some ⟨b, 0, none⟩) 1 1) (hblk : W1.heap[b]? = some (.cells news.toArray te fr)) (hl : news.length = size) (h1 : ∀ u ∈ news, u.oneCell' = true)
    (y : α) (hy : r W0 (fun b => b < W0.heap.size ∧ v.ownBlock ≠ some b) (fun j => news[j]?) y)
    (h63 : xs.length + 1 ≤ maxLen) (hbytes : (xs.length + 1) * bytes ≤ lim) (hbase : base ≤ W0.heap.size)
    (h : ∀ v' w', Hid (Own size r w' base e v' (xs ++ [y])) → Hid (Chg (fun k => v.ownBlock = some k) W0 w') → Hid (∀ k, v'.ownBlock = some k → v.ownBlock = some k ∨ W0.heap.size ≤ k) → K (a.put o.dst v') w') :
    if Region.wanted o (yielded ops a.tmps) = true then Oper.wp P o a W1 K Q else E := by
  have hw : Region.wanted o (yielded ops a.tmps) = true := by simp [Region.wanted, hgd]
  rw [if_pos hw]
  obtain ⟨i, hi1, hi2⟩ := Option.map_eq_some_iff.1 hi
  simp only [Prod.mk.injEq] at hi2
  obtain ⟨v', w', hrun, k1, k2, k3⟩ := app_o (P := P) (ty := o.type) st ht hi1 hi2.1 hi2.2.1 hi2.2.2 hzs hsz hown hf hblk hl h1 hy h63 hbytes hbase
  unfold Oper.wp execOp
  simp only [ho, resolve, invoke, builtin, Sem.run_bind, Sem.run_pure, Result.andThen_ok, List.map_toArray, List.map_cons, List.map_nil, hs, hx, hrun]
  exact h v' w' k1 k2 k3
end
end Go.Proofs.Ytnfjghldcopaaaa
