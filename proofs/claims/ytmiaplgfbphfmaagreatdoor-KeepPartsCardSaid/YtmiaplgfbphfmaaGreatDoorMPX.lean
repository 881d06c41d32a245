/- What solve.Decode answers, plainly. No condition; no program in sight. -/
import Derived.Test.YtmiaplgfbphfmaaGreatDoorMPZ
import Derived.Test.YtmiaplgfbphfmaaGreatDoorMPP
import Derived.Test.YtmiaplgfbphfmaaGreatDoorMPB
set_option linter.unusedSimpArgs false
set_option linter.unusedVariables false
namespace Go.Proofs.YtmiaplgfbphfmaaGreatDoor

/-- A right system and a right row: what solve.Add makes. -/
theorem sysAdd_ok0 {B K : Int} {rows : List Rw} {r : Rw} (h : (sysAdd ⟨B, K, rows⟩ r).2.2 = 0) :
    ∃ b k : Nat, B = b ∧ K = k ∧ (1 ≤ b ∧ b ≤ 24) ∧ (1 ≤ k ∧ k ≤ 16) ∧ sysCheck b k rows = 0 ∧ Sys b k rows ∧ Fit b k r ∧ (sysAdd ⟨B, K, rows⟩ r).1.blocks = b ∧ (sysAdd ⟨B, K, rows⟩ r).1.block = k ∧
      (((sysAdd ⟨B, K, rows⟩ r).1.rows = rows ∧ (sysAdd ⟨B, K, rows⟩ r).2.1 = false ∧ Sp (pl rows) (vc r)) ∨
        (∃ i, (sysAdd ⟨B, K, rows⟩ r).1.rows = insRow rows i (redRow rows r) ∧ (sysAdd ⟨B, K, rows⟩ r).2.1 = true ∧ Lead (vc (redRow rows r)) i ∧ Sys b k (insRow rows i (redRow rows r)) ∧ ∀ v, Sp (pl (insRow rows i (redRow rows r))) v ↔ Span (With rows r) v)) := by
  unfold sysAdd at h ⊢
  by_cases h0 : sysCheck B K rows = 0
  · rw [if_neg (by simp [h0])] at h ⊢
    by_cases h1 : (r.has.length : Int) ≠ B ∨ (r.data.length : Int) ≠ K
    · rw [if_pos h1] at h; cases h
    · rw [if_neg h1] at h ⊢
      obtain ⟨⟨b1, b2⟩, ⟨k1, k2⟩, _, hR⟩ := sysCheck_ok h0
      obtain ⟨b, rfl⟩ := Int.eq_ofNat_of_zero_le (show 0 ≤ B by omega)
      obtain ⟨k, rfl⟩ := Int.eq_ofNat_of_zero_le (show 0 ≤ K by omega)
      have hs := rowsOk_sys hR
      have hf : Fit b k r := ⟨by omega, by omega⟩
      rcases addRow_cases hs hf with ⟨e, hsp⟩ | ⟨e, _⟩ | ⟨rows', i, e, rfl, hl, _, hs', hsp⟩
      · rw [e] at h ⊢
        exact ⟨b, k, rfl, rfl, by omega, by omega, h0, hs, hf, rfl, rfl, .inl ⟨rfl, rfl, hsp⟩⟩
      · rw [e] at h; cases h
      · rw [e] at h ⊢
        exact ⟨b, k, rfl, rfl, by omega, by omega, h0, hs, hf, rfl, rfl, .inr ⟨i, rfl, rfl, hl, hs', hsp⟩⟩
  · rw [if_pos h0] at h
    exact absurd h h0

/-- One block alone. -/
theorem unit_iff {r : Rw} {k : Nat} (hk : r.fst = (k : Int)) : r.unit = true ↔ ∀ j, j ≠ k → (vc r).h j = false := by
  have hl := fst_lead.1 hk
  unfold Rw.unit
  rw [hk, Int.toNat_natCast]
  simp only [Bool.not_eq_true', decide_eq_false_iff_not]
  constructor
  · intro h j hj
    rcases Nat.lt_or_ge j k with h1 | h1
    · exact hl.2 j h1
    · cases e : (vc r).h j with
      | false => rfl
      | true =>
        refine absurd ?_ h
        have e2 : r.has.getD j false = true := e
        rw [List.getD_eq_getElem?_getD] at e2
        cases e3 : r.has[j]? with
        | none => rw [e3] at e2; cases e2
        | some b =>
          rw [e3] at e2
          have : b = true := e2
          subst this
          refine List.mem_of_getElem? (i := j - (k + 1)) ?_
          rw [List.getElem?_drop, show k + 1 + (j - (k + 1)) = j by omega]
          exact e3
  · intro h hm
    obtain ⟨i, hi⟩ := List.mem_iff_getElem?.1 hm
    rw [List.getElem?_drop] at hi
    have := h (k + 1 + i) (by omega)
    have e2 : r.has.getD (k + 1 + i) false = false := this
    rw [List.getD_eq_getElem?_getD, hi] at e2
    cases e2

theorem foldKnown_far {k : Nat} : ∀ {rows : List Rw} {out : List (List UInt8)}, (∀ o ∈ rows, o.unit = true → o.fst.toNat ≠ k) → (rows.foldl knownStep out)[k]? = out[k]?
  | [], _, _ => rfl
  | r :: rows, out, h => by
    rw [List.foldl_cons, foldKnown_far fun o ho => h o (List.mem_cons_of_mem _ ho)]
    unfold knownStep
    split
    · rename_i e
      rw [List.getElem?_set_ne (h r (by simp) e)]
    · rfl
theorem foldKnown_mem {k : Nat} : ∀ {rows : List Rw} {out : List (List UInt8)} {o : Rw}, (rows.Pairwise fun a b => a.fst.toNat ≠ b.fst.toNat) → o ∈ rows → o.unit = true → o.fst.toNat = k → k < out.length → (rows.foldl knownStep out)[k]? = some o.data
  | r :: rows, out, o, hp, ho, hu, hk, hl => by
    obtain ⟨p1, p2⟩ := List.pairwise_cons.1 hp
    rw [List.foldl_cons]
    rcases List.mem_cons.1 ho with rfl | ho
    · rw [foldKnown_far fun o' ho' _ => by rw [← hk]; exact (p1 o' ho').symm]
      unfold knownStep
      rw [if_pos hu, hk, List.getElem?_set_self hl]
    · exact foldKnown_mem p2 ho hu hk (by rw [length_knownStep]; exact hl)
theorem foldKnown_of {k : Nat} {b : List UInt8} : ∀ {rows : List Rw} {out : List (List UInt8)}, (rows.foldl knownStep out)[k]? = some b → out[k]? = some b ∨ ∃ o ∈ rows, o.unit = true ∧ o.fst.toNat = k ∧ o.data = b
  | [], _, h => .inl h
  | r :: rows, out, h => by
    rw [List.foldl_cons] at h
    rcases foldKnown_of h with h1 | ⟨o, ho, h1⟩
    · unfold knownStep at h1
      split at h1
      · rename_i e
        rw [List.getElem?_set] at h1
        split at h1
        · rename_i ek
          split at h1
          · injection h1 with h1
            exact .inr ⟨r, by simp, e, ek, h1⟩
          · cases h1
        · exact .inl h1
      · exact .inl h1
    · exact .inr ⟨o, List.mem_cons_of_mem _ ho, h1⟩
theorem Sys.apart {B K : Nat} {rows : List Rw} (h : Sys B K rows) : rows.Pairwise fun a b => a.fst.toNat ≠ b.fst.toNat := by
  have := h.ech.up
  unfold pl at this
  rw [List.pairwise_map] at this
  exact this.imp fun x => Nat.ne_of_lt x.1
theorem known_mem {B K : Nat} {rows : List Rw} (h : Sys B K rows) {o : Rw} (ho : o ∈ rows) (hu : o.unit = true) : (knownF B rows)[o.fst.toNat]? = some o.data := by
  obtain ⟨k, e, _, hlt⟩ := h.leads ho
  exact foldKnown_mem h.apart ho hu rfl (by simp; omega)
theorem known_of {B K : Nat} {rows : List Rw} (h : Sys B K rows) {k : Nat} {b : List UInt8} (hb : (knownF B rows)[k]? = some b) : b = [] ∨ ∃ o ∈ rows, o.unit = true ∧ o.fst.toNat = k ∧ o.data = b := by
  rcases foldKnown_of hb with h1 | h1
  · left
    have hk := (List.getElem?_eq_some_iff.1 h1).1
    rw [List.getElem?_replicate, if_pos (by simpa using hk)] at h1
    injection h1 with h1
    exact h1.symm
  · exact .inr h1
theorem length_knownF (B : Nat) (rows : List Rw) : (knownF B rows).length = B := by unfold knownF; rw [length_foldKnown]; simp

/-- All that SolveKeeps says, plainly. -/
structure KeepsP (B K : Int) (rows rows' : List Rw) (m : Bool) (r : Rw) : Prop where
  chk : sysCheck B K rows = 0
  again : sysAdd ⟨B, K, rows'⟩ r = (⟨B, K, rows'⟩, false, 0)
  chk' : sysCheck B K rows' = 0
  len : m = decide (rows'.length = rows.length + 1)
  same : m = false → rows' = rows
  known : ∀ (k : Nat) (b : List UInt8), (knownF B.toNat rows)[k]? = some b → b ≠ [] → (knownF B.toNat rows')[k]? = some b
end Go.Proofs.YtmiaplgfbphfmaaGreatDoor
namespace Go.Proofs.YtmiaplgfbphfmaaGreatDoor

/-- A symbol that is made, is right. -/
structure SymOk (B K : Nat) (c : List UInt8) (s : Sm) : Prop where
  id : 0 ≤ s.id ∧ s.id ≤ 9999
  data : s.data = xorAll K (sel (pickHas s.id.toNat (cutF K B c).length) (cutF K B c))
end Go.Proofs.YtmiaplgfbphfmaaGreatDoor
namespace Go.Proofs.YtmiaplgfbphfmaaGreatDoor

/-- The sum of the blocks that are in, at a byte. -/
def evf : List (List UInt8) → (Nat → Bool) → Nat → UInt8
  | [], _, _ => 0
  | x :: xs, h, i => (if h 0 then x.getD i 0 else 0) ^^^ evf xs (fun k => h (k + 1)) i
theorem ev_key (a b : Bool) (X P Q : UInt8) : ((if (a ^^ b) then X else 0) ^^^ (P ^^^ Q)) = (((if a then X else 0) ^^^ P) ^^^ ((if b then X else 0) ^^^ Q)) := by
  cases a <;> cases b <;> simp
  · ac_rfl
  · ac_rfl
  · rw [show X ^^^ P ^^^ (X ^^^ Q) = (X ^^^ X) ^^^ (P ^^^ Q) by ac_rfl, UInt8.xor_self, UInt8.zero_xor]
theorem evf_add (i : Nat) : ∀ (bl : List (List UInt8)) (h h' : Nat → Bool), evf bl (fun k => h k ^^ h' k) i = (evf bl h i ^^^ evf bl h' i)
  | [], _, _ => by simp [evf]
  | x :: xs, h, h' => by
    simp only [evf]
    rw [evf_add i xs (fun k => h (k + 1)) (fun k => h' (k + 1))]
    exact ev_key _ _ _ _ _
theorem evf_none (i : Nat) : ∀ (bl : List (List UInt8)) (h : Nat → Bool), (∀ k, h k = false) → evf bl h i = 0
  | [], _, _ => rfl
  | x :: xs, h, h0 => by simp [evf, h0 0, evf_none i xs (fun k => h (k + 1)) fun k => h0 (k + 1)]
theorem evf_unit (i : Nat) : ∀ (bl : List (List UInt8)) (h : Nat → Bool) (k : Nat), h k = true → (∀ j, j ≠ k → h j = false) → evf bl h i = (bl.getD k []).getD i 0
  | [], _, _, _, _ => by simp [evf]
  | x :: xs, h, 0, h0, hn => by
    rw [evf, if_pos h0, evf_none i xs _ fun k => hn (k + 1) (by omega)]
    simp
  | x :: xs, h, k + 1, h0, hn => by
    rw [evf, if_neg (by simp [hn 0 (by omega)]), evf_unit i xs (fun k => h (k + 1)) k h0 fun j hj => hn (j + 1) (by omega)]
    simp
/-- What a row says holds of the blocks. -/
def Hold (bl : List (List UInt8)) (v : Vc) : Prop := ∀ i, v.d i = evf bl v.h i
theorem hold_zero (bl : List (List UInt8)) : Hold bl Vc.zero := fun i => (evf_none i bl _ fun _ => rfl).symm
theorem Hold.add {bl : List (List UInt8)} {u v : Vc} (h : Hold bl u) (k : Hold bl v) : Hold bl (u + v) := fun i => by
  rw [Vc.add_d, h i, k i]
  exact (evf_add i bl u.h v.h).symm
theorem Hold.span {bl : List (List UInt8)} {G : Vc → Prop} (h : ∀ g, G g → Hold bl g) {v : Vc} (hv : Span G v) : Hold bl v := hv.all (hold_zero bl) (fun _ _ a b => a.add b) h

theorem foldl_getD {K i : Nat} : ∀ (ls : List (List UInt8)) (acc : List UInt8), (∀ l ∈ ls, l.length = K) → acc.length = K → (ls.foldl zx acc).getD i 0 = (acc.getD i 0 ^^^ ls.foldr (fun l a => l.getD i 0 ^^^ a) 0)
  | [], acc, _, _ => by simp
  | l :: ls, acc, h, ha => by
    have hl := h l (by simp)
    rw [List.foldl_cons, foldl_getD ls (zx acc l) (fun x hx => h x (List.mem_cons_of_mem _ hx)) (by rw [length_zx (by omega), ha]), zx_getD (by omega), List.foldr_cons, UInt8.xor_assoc]
theorem sel_ev (i : Nat) : ∀ (has : List Bool) (bl : List (List UInt8)), has.length = bl.length → (sel has bl).foldr (fun l a => l.getD i 0 ^^^ a) 0 = evf bl (fun k => has.getD k false) i
  | [], [], _ => rfl
  | a :: has, x :: bl, h => by
    have ih := sel_ev i has bl (by simpa using h)
    have e : sel (a :: has) (x :: bl) = if a then x :: sel has bl else sel has bl := by cases a <;> simp [sel]
    rw [e, evf]
    have e2 : (fun k => (a :: has).getD (k + 1) false) = fun k => has.getD k false := by funext k; simp
    rw [e2, ← ih]
    cases a <;> simp
/-- The row of a symbol. -/
def symRow (b : Nat) (s : Sm) : Rw := ⟨pickHas s.id.toNat b, s.data⟩
theorem cutF_facts {B K : Nat} {c : List UInt8} (h : cutCheck B K = 0) (hl : c.length = B) : 1 ≤ (cutF K B c).length ∧ (cutF K B c).length ≤ 24 ∧ ((cutF K B c).length : Int) = blocksOf B K ∧ (∀ y ∈ cutF K B c, y.length = K) ∧ (1 ≤ K ∧ K ≤ 16) := by
  obtain ⟨q1, q2, q3⟩ := cutF_count h hl
  obtain ⟨h1, h2, _⟩ := cutCheck_ok h
  exact ⟨q1, q2, q3, cutF_all (by omega) B c, by omega⟩
theorem symOk_hold {B K : Nat} {c : List UInt8} (h : cutCheck B K = 0) (hl : c.length = B) {s : Sm} (hs : SymOk B K c s) : Fit (cutF K B c).length K (symRow (cutF K B c).length s) ∧ Hold (cutF K B c) (vc (symRow (cutF K B c).length s)) := by
  obtain ⟨_, _, _, hall, _⟩ := cutF_facts h hl
  have hsel : ∀ y ∈ sel (pickHas s.id.toNat (cutF K B c).length) (cutF K B c), y.length = K := fun y hy => hall y (sel_mem hy)
  refine ⟨⟨length_pickHas _ _, ?_⟩, fun i => ?_⟩
  · show s.data.length = K
    rw [hs.data]
    exact length_xorAll hsel (by simp [zeros])
  · show s.data.getD i 0 = evf _ (fun k => (pickHas s.id.toNat (cutF K B c).length).getD k false) i
    rw [hs.data]
    unfold xorAll
    rw [foldl_getD _ _ hsel (by simp [zeros]), sel_ev i _ _ (length_pickHas _ _)]
    have : (zeros K).getD i 0 = 0 := by unfold zeros; simp [List.getD_eq_getElem?_getD, List.getElem?_replicate]; split <;> rfl
    rw [this, UInt8.zero_xor]

/-- The rows of symbols. -/
def GS (b : Nat) (xs : List Sm) (g : Vc) : Prop := ∃ x ∈ xs, g = vc (symRow b x)
/-- A system that symbols made. -/
structure Made (b K : Nat) (xs : List Sm) (rows : List Rw) : Prop where
  sys : Sys b K rows
  span : ∀ v, Sp (pl rows) v ↔ Span (GS b xs) v
theorem made_nil (b K : Nat) : Made b K [] [] := ⟨⟨fun _ h => (by cases h), fun _ h => (by cases h), Ech.nil⟩, fun v => ⟨fun h => h.le fun g ⟨a, ha, _⟩ => (by cases ha), fun h => h.le fun g ⟨a, ha, _⟩ => (by cases ha)⟩⟩
/-- One symbol more. -/
theorem made_snoc {b K : Nat} {xs : List Sm} {rows rows' : List Rw} {x : Sm} {m : Bool} (hB : 1 ≤ b ∧ b ≤ 24) (hK : 1 ≤ K ∧ K ≤ 16) (h : Made b K xs rows) (hf : Fit b K (symRow b x)) (e : sysAdd ⟨b, K, rows⟩ (symRow b x) = (⟨b, K, rows'⟩, m, 0)) :
    Made b K (xs ++ [x]) rows' ∧ rows'.length = rows.length + (if m then 1 else 0) := by
  obtain ⟨b', k', e1, e2, _, _, _, hs, _, _, _, hcase⟩ := sysAdd_ok0 (B := b) (K := K) (rows := rows) (r := symRow b x) (by rw [e])
  obtain rfl : b' = b := by omega
  obtain rfl : k' = K := by omega
  rw [e] at hcase
  have hw : ∀ v, Span (With rows (symRow b' x)) v ↔ Span (GS b' (xs ++ [x])) v := by
    intro v
    constructor
    · refine Span.le fun g hg => ?_
      rcases hg with hg | rfl
      · exact ((h.span g).1 (.of hg)).mono fun g ⟨y, hy, e⟩ => ⟨y, List.mem_append_left _ hy, e⟩
      · exact .of ⟨x, by simp, rfl⟩
    · refine Span.le fun g hg => ?_
      obtain ⟨y, hy, rfl⟩ := hg
      rcases List.mem_append.1 hy with hy | hy
      · exact ((h.span _).2 (.of ⟨y, hy, rfl⟩)).mono fun g hg => .inl hg
      · obtain rfl := List.mem_singleton.1 hy
        exact .of (.inr rfl)
  rcases hcase with ⟨h1, h2, hsp⟩ | ⟨i, h1, h2, hl, hs', hsp⟩
  · simp only [] at h1 h2
    subst h1 h2
    refine ⟨⟨hs, fun v => Iff.trans ?_ (hw v)⟩, by simp⟩
    constructor
    · exact fun hv => hv.mono fun g hg => .inl hg
    · refine Span.le fun g hg => ?_
      rcases hg with hg | rfl
      · exact .of hg
      · exact hsp
  · simp only [] at h1 h2
    subst h1 h2
    exact ⟨⟨hs', fun v => (hsp v).trans (hw v)⟩, by rw [length_insRow]; simp⟩
/-- Symbols of one cargo never contradict. -/
theorem hold_add {b K : Nat} {bl : List (List UInt8)} {rows : List Rw} {r : Rw} (hB : 1 ≤ b ∧ b ≤ 24) (hK : 1 ≤ K ∧ K ≤ 16) (hs : Sys b K rows) (hf : Fit b K r) (hr : ∀ v, Sp (pl rows) v → Hold bl v) (hh : Hold bl (vc r)) : ∃ rows' m, sysAdd ⟨b, K, rows⟩ r = (⟨b, K, rows'⟩, m, 0) := by
  unfold sysAdd
  rw [if_neg (by simp [sysCheck_of hB hK hs]), if_neg (by simp [hf.1, hf.2])]
  rcases addRow_cases hs hf with ⟨e, _⟩ | ⟨e, v, hv, h0, hne⟩ | ⟨rows', k, e, _⟩
  · rw [e]; exact ⟨_, _, rfl⟩
  · exfalso
    have : Hold bl v := Hold.span (fun g hg => by
      rcases hg with hg | rfl
      · exact hr g (.of hg)
      · exact hh) hv
    refine hne (Vc.ext' h0 fun i => ?_)
    rw [this i, evf_none i bl _ h0]; rfl
  · rw [e]; exact ⟨_, _, rfl⟩
/-- What is known is a block of it. -/
theorem known_block {b K : Nat} {bl : List (List UInt8)} {rows : List Rw} (hs : Sys b K rows) (hl : bl.length = b) (hall : ∀ y ∈ bl, y.length = K) (hr : ∀ v, Sp (pl rows) v → Hold bl v) {k : Nat} {x : List UInt8} (hx : (knownF b rows)[k]? = some x) (hne : x ≠ []) : bl[k]? = some x := by
  rcases known_of hs hx with h1 | ⟨o, ho, hu, rfl, rfl⟩
  · exact absurd h1 hne
  · obtain ⟨l, e, hl2, hlt⟩ := hs.leads ho
    have hh := hr _ (.of (of_mem ho))
    have hun := (unit_iff e).1 hu
    rw [e, Int.toNat_natCast]
    have hlb : l < bl.length := by omega
    rw [List.getElem?_eq_getElem hlb]
    congr 1
    refine list_ext_getD (d := 0) ?_ fun i => ?_
    · rw [hall _ (List.getElem_mem hlb), (hs.fit o ho).2]
    · have h1 := hh i
      rw [evf_unit i bl _ l hl2.1 hun] at h1
      have h2 : (bl.getD l []) = bl[l] := by rw [List.getD_eq_getElem?_getD, List.getElem?_eq_getElem hlb]; rfl
      rw [h2] at h1
      exact h1.symm
/-- As many rows as blocks: all is known. -/
theorem full_unit {b K : Nat} {rows : List Rw} (hs : Sys b K rows) (hfull : b ≤ rows.length) : ∀ k, k < b → ∃ o ∈ rows, o.fst = (k : Int) ∧ o.unit = true := by
  have hn : ((pl rows).map (·.1)).Nodup := by
    rw [List.Nodup, List.pairwise_map]
    exact hs.ech.up.imp fun x => Nat.ne_of_lt x.1
  have hin : ∀ j ∈ (pl rows).map (·.1), j < b := fun j hj => by
    obtain ⟨a, ha, rfl⟩ := List.mem_map.1 hj
    obtain ⟨r, hr, rfl⟩ := List.mem_map.1 ha
    obtain ⟨k, e, _, hlt⟩ := hs.leads hr
    simp only []; omega
  have hall : ∀ k, k < b → ∃ o ∈ rows, o.fst = (k : Int) := fun k hk => by
    by_cases h : k ∈ (pl rows).map (·.1)
    · obtain ⟨a, ha, e⟩ := List.mem_map.1 h
      obtain ⟨r, hr, rfl⟩ := List.mem_map.1 ha
      obtain ⟨j, e2, _⟩ := hs.leads hr
      exact ⟨r, hr, by simp only [] at e; omega⟩
    · exfalso
      have := nodup_le hn (m := (List.range b).erase k) fun j hj => by
        refine (List.mem_erase_of_ne (fun e => h (by rw [← e]; exact hj))).2 (List.mem_range.2 (hin j hj))
      rw [List.length_erase_of_mem (List.mem_range.2 hk), List.length_range] at this
      simp [pl] at this
      omega
  intro k hk
  obtain ⟨o, ho, e⟩ := hall k hk
  refine ⟨o, ho, e, (unit_iff e).2 fun j hj => ?_⟩
  rcases Nat.lt_or_ge j b with hjb | hjb
  · obtain ⟨o', ho', e'⟩ := hall j hjb
    have := hs.ech.apart (List.mem_map.2 ⟨o, ho, rfl⟩) (List.mem_map.2 ⟨o', ho', rfl⟩) (by simp only []; omega)
    simp only [e', Int.toNat_natCast] at this
    exact this
  · show o.has.getD j false = false
    rw [List.getD_eq_getElem?_getD, List.getElem?_eq_none (by rw [(hs.fit o ho).1]; exact hjb)]; rfl
theorem known_full {b K : Nat} {bl : List (List UInt8)} {rows : List Rw} (hs : Sys b K rows) (hK : 1 ≤ K) (hl : bl.length = b) (hall : ∀ y ∈ bl, y.length = K) (hr : ∀ v, Sp (pl rows) v → Hold bl v) (hfull : b ≤ rows.length) : knownF b rows = bl := by
  apply List.ext_getElem?
  intro k
  rcases Nat.lt_or_ge k b with hk | hk
  · obtain ⟨o, ho, e, hu⟩ := full_unit hs hfull k hk
    have h1 := known_mem hs ho hu
    rw [e, Int.toNat_natCast] at h1
    rw [h1]
    exact (known_block hs hl hall hr h1 (fun e => by have := (hs.fit o ho).2; rw [e] at this; simp at this; omega)).symm
  · rw [List.getElem?_eq_none (by rw [length_knownF]; exact hk), List.getElem?_eq_none (by omega)]
/-- More that is said, no fewer rows. -/
theorem made_le {b K : Nat} {xs ys : List Sm} {rows rows' : List Rw} (h : Made b K xs rows) (h' : Made b K ys rows') (hle : ∀ x ∈ xs, x ∈ ys) : rows.length ≤ rows'.length := by
  have := ech_card (ps := pl rows) (qs := pl rows') h.sys.ech fun a ha => by
    obtain ⟨r, hr, rfl⟩ := List.mem_map.1 ha
    have h1 : Sp (pl rows') (vc r) := (h'.span _).2 (((h.span _).1 (.of (of_mem hr))).mono fun g ⟨y, hy, e⟩ => ⟨y, hle y hy, e⟩)
    exact span_lead h'.sys.ech h1 (h.sys.ech.lead _ ha)
  simpa [pl] using this
end Go.Proofs.YtmiaplgfbphfmaaGreatDoor
namespace Go.Proofs.YtmiaplgfbphfmaaGreatDoor

def decRows (b : Nat) (B K : Int) : List Rw → List Sm → List Rw × Int
  | rows, [] => (rows, 0)
  | rows, x :: xs =>
    if codeCheck B K x.id x.data.length ≠ 0 then ([], codeCheck B K x.id x.data.length)
    else if (sysAdd ⟨b, K, rows⟩ (symRow b x)).2.2 ≠ 0 then ([], (sysAdd ⟨b, K, rows⟩ (symRow b x)).2.2)
    else decRows b B K (sysAdd ⟨b, K, rows⟩ (symRow b x)).1.rows xs
/-- What solve.Decode answers. -/
def decodeF (B K : Int) (xs : List Sm) : List UInt8 × Int :=
  if cutCheck B K ≠ 0 then ([], cutCheck B K)
  else if 60 < xs.length then ([], 2)
  else if (decRows (blocksOf B K).toNat B K [] xs).2 ≠ 0 then ([], (decRows (blocksOf B K).toNat B K [] xs).2)
  else if (decRows (blocksOf B K).toNat B K [] xs).1.length < (blocksOf B K).toNat then ([], 8)
  else joinUp B K (knownF (blocksOf B K).toNat (decRows (blocksOf B K).toNat B K [] xs).1)
/-- Where no symbol was refused. -/
theorem decRows_made {b K : Nat} {B : Int} (hB : 1 ≤ b ∧ b ≤ 24) (hK : 1 ≤ K ∧ K ≤ 16) : ∀ (xs ys : List Sm) (rows : List Rw), Made b K ys rows → (decRows b B K rows xs).2 = 0 → Made b K (ys ++ xs) (decRows b B K rows xs).1 ∧ ∀ x ∈ xs, codeCheck B K x.id x.data.length = 0
  | [], ys, rows, h, _ => ⟨by rw [List.append_nil]; exact h, fun _ h => by cases h⟩
  | x :: xs, ys, rows, h, h0 => by
    rw [decRows] at h0 ⊢
    by_cases h1 : codeCheck B K x.id x.data.length = 0
    · rw [if_neg (by simp [h1])] at h0 ⊢
      by_cases h2 : (sysAdd ⟨b, K, rows⟩ (symRow b x)).2.2 = 0
      · rw [if_neg (by simp [h2])] at h0 ⊢
        have hf : Fit b K (symRow b x) := ⟨length_pickHas _ _, by have := (codeCheck_ok h1).2.2; show x.data.length = K; omega⟩
        obtain ⟨b', k', e1, e2, _, _, _, _, _, e3, e4, _⟩ := sysAdd_ok0 h2
        have e : sysAdd ⟨b, K, rows⟩ (symRow b x) = (⟨b, K, (sysAdd ⟨b, K, rows⟩ (symRow b x)).1.rows⟩, (sysAdd ⟨b, K, rows⟩ (symRow b x)).2.1, 0) := by
          refine Prod.ext ?_ (Prod.ext rfl h2)
          cases hq : (sysAdd ⟨b, K, rows⟩ (symRow b x)).1 with
          | mk q1 q2 q3 =>
            rw [hq] at e3 e4
            simp only [] at e3 e4
            rw [e3, e4, ← e1, ← e2]
        have hm := (made_snoc hB hK h hf e).1
        obtain ⟨h3, h4⟩ := decRows_made hB hK xs (ys ++ [x]) _ hm h0
        refine ⟨by rw [List.append_assoc] at h3; exact h3, fun y hy => ?_⟩
        rcases List.mem_cons.1 hy with rfl | hy
        · exact h1
        · exact h4 y hy
      · rw [if_pos h2] at h0; exact absurd h0 h2
    · rw [if_pos h1] at h0; exact absurd h0 h1
/-- Symbols of one cargo are never refused. -/
theorem decRows_hold {b K : Nat} {B : Int} {bl : List (List UInt8)} (hB : 1 ≤ b ∧ b ≤ 24) (hK : 1 ≤ K ∧ K ≤ 16) (hc : cutCheck B K = 0) : ∀ (xs ys : List Sm) (rows : List Rw), Made b K ys rows → (∀ x ∈ ys ++ xs, Fit b K (symRow b x) ∧ Hold bl (vc (symRow b x)) ∧ 0 ≤ x.id ∧ x.id ≤ 9999) → (decRows b B K rows xs).2 = 0
  | [], _, _, _, _ => rfl
  | x :: xs, ys, rows, h, hall => by
    obtain ⟨hf, hh, hid⟩ := hall x (by simp)
    have h1 : codeCheck B K x.id x.data.length = 0 := codeCheck_of hc hid (by have := hf.2; show ((x.data.length : Nat) : Int) = K; have e : x.data.length = K := this; omega)
    have hspan : ∀ v, Sp (pl rows) v → Hold bl v := fun v hv => Hold.span (fun g ⟨y, hy, e⟩ => by rw [e]; exact (hall y (List.mem_append_left _ hy)).2.1) ((h.span v).1 hv)
    obtain ⟨rows', m, e⟩ := hold_add hB hK h.sys hf hspan hh
    rw [decRows, if_neg (by simp [h1]), e, if_neg (by simp)]
    exact decRows_hold hB hK hc xs (ys ++ [x]) rows' (made_snoc hB hK h hf e).1 (by rw [List.append_assoc]; exact hall)

/-- Symbols that hold of a cargo's blocks. -/
structure SymsOk (B K : Nat) (c : List UInt8) (xs : List Sm) : Prop where
  cut : cutCheck B K = 0
  len : c.length = B
  many : xs.length ≤ 60
  all : ∀ x ∈ xs, SymOk B K c x
theorem SymsOk.hold {B K : Nat} {c : List UInt8} {xs : List Sm} (h : SymsOk B K c xs) : ∀ x ∈ xs, Fit (cutF K B c).length K (symRow (cutF K B c).length x) ∧ Hold (cutF K B c) (vc (symRow (cutF K B c).length x)) ∧ 0 ≤ x.id ∧ x.id ≤ 9999 := fun x hx => by
  obtain ⟨h1, h2⟩ := symOk_hold h.cut h.len (h.all x hx)
  exact ⟨h1, h2, (h.all x hx).id⟩
/-- The rows that symbols of a cargo make. -/
theorem SymsOk.rows {B K : Nat} {c : List UInt8} {xs : List Sm} (h : SymsOk B K c xs) : ∃ rows, Made (cutF K B c).length K xs rows ∧ decodeF B K xs = if rows.length < (cutF K B c).length then ([], 8) else (c, 0) := by
  obtain ⟨q1, q2, q3, hall, hK⟩ := cutF_facts h.cut h.len
  have e0 := decRows_hold (B := (B : Int)) ⟨q1, q2⟩ hK h.cut xs [] [] (made_nil _ _) (by simpa using h.hold)
  obtain ⟨hm, _⟩ := decRows_made (B := (B : Int)) ⟨q1, q2⟩ hK xs [] [] (made_nil _ _) e0
  rw [List.nil_append] at hm
  refine ⟨_, hm, ?_⟩
  unfold decodeF
  have hb : (blocksOf B K).toNat = (cutF K B c).length := by omega
  rw [if_neg (by simp [h.cut]), if_neg (by have := h.many; omega), hb, if_neg (by simp [e0])]
  split
  · rfl
  · rename_i hlt
    have hspan : ∀ v, Sp (pl (decRows (cutF K B c).length B K [] xs).1) v → Hold (cutF K B c) v := fun v hv => Hold.span (fun g ⟨y, hy, e⟩ => by rw [e]; exact (h.hold y hy).2.1) ((hm.span v).1 hv)
    rw [known_full hm.sys hK.1 rfl hall hspan (by omega)]
    exact join_cut h.cut h.len
/-- It is known, or it isn't yet. -/
theorem SymsOk.decode {B K : Nat} {c : List UInt8} {xs : List Sm} (h : SymsOk B K c xs) : decodeF B K xs = ([], 8) ∨ decodeF B K xs = (c, 0) := by
  obtain ⟨rows, _, e⟩ := h.rows
  rw [e]; split
  · exact .inl rfl
  · exact .inr rfl
/-- Whatever else is told, no less is known. -/
theorem SymsOk.more {B K : Nat} {c : List UInt8} {xs ys : List Sm} (h : SymsOk B K c xs) (h' : SymsOk B K c ys) (hle : ∀ x ∈ xs, x ∈ ys) (e : (decodeF B K xs).2 = 0) : decodeF B K ys = (c, 0) := by
  obtain ⟨rows, hm, e1⟩ := h.rows
  obtain ⟨rows', hm', e2⟩ := h'.rows
  have := made_le hm hm' hle
  rw [e1] at e
  rw [e2]
  split at e
  · cases e
  · rw [if_neg (by omega)]
theorem SymsOk.same {B K : Nat} {c : List UInt8} {xs ys : List Sm} (h : SymsOk B K c xs) (h' : SymsOk B K c ys) (hle : ∀ x, x ∈ xs ↔ x ∈ ys) : decodeF B K xs = decodeF B K ys := by
  rcases h.decode with e | e
  · rcases h'.decode with e' | e'
    · rw [e, e']
    · have := h'.more h (fun x hx => (hle x).2 hx) (by rw [e'])
      rw [e] at this; cases this
  · rw [e, h.more h' (fun x hx => (hle x).1 hx) (by rw [e])]
end Go.Proofs.YtmiaplgfbphfmaaGreatDoor
