/- Plain laws of what symbols say of a cargo's blocks. No condition; no program in sight. -/
import Derived.Test.YtojoodmnmhcojaaKeepsP
import Derived.Test.YtojoodmnmhcojaaSymP
set_option linter.unusedSimpArgs false
set_option linter.unusedVariables false
namespace Go.Proofs.Ytojoodmnmhcojaa

/-- The sum of the blocks that are in, at a byte. -/
def evf : List (List UInt8) → (Nat → Bool) → Nat → UInt8
  | [], _, _ => 0
  | x :: xs, h, i => (if h 0 then x.getD i 0 else 0) ^^^ evf xs (fun k => h (k + 1)) i
theorem ev_key (a b : Bool) (X P Q : UInt8) : ((if (a ^^ b) then X else 0) ^^^ (P ^^^ Q)) = (((if a then X else 0) ^^^ P) ^^^ ((if b then X else 0) ^^^ Q)) := by
  cases a <;> cases b <;> simp
  · ac_rfl
  · ac_rfl
  · rw [show X ^^^ P ^^^ (X ^^^ Q) = (X ^^^ X) ^^^ (P ^^^ Q) by ac_rfl, UInt8.xor_self, UInt8.zero_xor]
theorem evf_add (i : Nat) : ∀ (bl : List (List UInt8)) (h h' : Nat → Bool), evf bl (fun k => h k ^^ h' k) i = (evf bl h i ^^^ evf bl h' i)
  | [], _, _ => by simp [evf]
  | x :: xs, h, h' => by
    simp only [evf]
    rw [evf_add i xs (fun k => h (k + 1)) (fun k => h' (k + 1))]
    exact ev_key _ _ _ _ _
theorem evf_none (i : Nat) : ∀ (bl : List (List UInt8)) (h : Nat → Bool), (∀ k, h k = false) → evf bl h i = 0
  | [], _, _ => rfl
  | x :: xs, h, h0 => by simp [evf, h0 0, evf_none i xs (fun k => h (k + 1)) fun k => h0 (k + 1)]
theorem evf_unit (i : Nat) : ∀ (bl : List (List UInt8)) (h : Nat → Bool) (k : Nat), h k = true → (∀ j, j ≠ k → h j = false) → evf bl h i = (bl.getD k []).getD i 0
  | [], _, _, _, _ => by simp [evf]
  | x :: xs, h, 0, h0, hn => by
    rw [evf, if_pos h0, evf_none i xs _ fun k => hn (k + 1) (by omega)]
    simp
  | x :: xs, h, k + 1, h0, hn => by
    rw [evf, if_neg (by simp [hn 0 (by omega)]), evf_unit i xs (fun k => h (k + 1)) k h0 fun j hj => hn (j + 1) (by omega)]
    simp
/-- What a row says holds of the blocks. -/
def Hold (bl : List (List UInt8)) (v : Vc) : Prop := ∀ i, v.d i = evf bl v.h i
theorem hold_zero (bl : List (List UInt8)) : Hold bl Vc.zero := fun i => (evf_none i bl _ fun _ => rfl).symm
theorem Hold.add {bl : List (List UInt8)} {u v : Vc} (h : Hold bl u) (k : Hold bl v) : Hold bl (u + v) := fun i => by
  rw [Vc.add_d, h i, k i]
  exact (evf_add i bl u.h v.h).symm
theorem Hold.span {bl : List (List UInt8)} {G : Vc → Prop} (h : ∀ g, G g → Hold bl g) {v : Vc} (hv : Span G v) : Hold bl v := hv.all (hold_zero bl) (fun _ _ a b => a.add b) h

theorem foldl_getD {K i : Nat} : ∀ (ls : List (List UInt8)) (acc : List UInt8), (∀ l ∈ ls, l.length = K) → acc.length = K → (ls.foldl zx acc).getD i 0 = (acc.getD i 0 ^^^ ls.foldr (fun l a => l.getD i 0 ^^^ a) 0)
  | [], acc, _, _ => by simp
  | l :: ls, acc, h, ha => by
    have hl := h l (by simp)
    rw [List.foldl_cons, foldl_getD ls (zx acc l) (fun x hx => h x (List.mem_cons_of_mem _ hx)) (by rw [length_zx (by omega), ha]), zx_getD (by omega), List.foldr_cons, UInt8.xor_assoc]
theorem sel_ev (i : Nat) : ∀ (has : List Bool) (bl : List (List UInt8)), has.length = bl.length → (sel has bl).foldr (fun l a => l.getD i 0 ^^^ a) 0 = evf bl (fun k => has.getD k false) i
  | [], [], _ => rfl
  | a :: has, x :: bl, h => by
    have ih := sel_ev i has bl (by simpa using h)
    have e : sel (a :: has) (x :: bl) = if a then x :: sel has bl else sel has bl := by cases a <;> simp [sel]
    rw [e, evf]
    have e2 : (fun k => (a :: has).getD (k + 1) false) = fun k => has.getD k false := by funext k; simp
    rw [e2, ← ih]
    cases a <;> simp
/-- The row of a symbol. -/
def symRow (b : Nat) (s : Sm) : Rw := ⟨pickHas s.id.toNat b, s.data⟩
theorem cutF_facts {B K : Nat} {c : List UInt8} (h : cutCheck B K = 0) (hl : c.length = B) : 1 ≤ (cutF K B c).length ∧ (cutF K B c).length ≤ 24 ∧ ((cutF K B c).length : Int) = blocksOf B K ∧ (∀ y ∈ cutF K B c, y.length = K) ∧ (1 ≤ K ∧ K ≤ 16) := by
  obtain ⟨q1, q2, q3⟩ := cutF_count h hl
  obtain ⟨h1, h2, _⟩ := cutCheck_ok h
  exact ⟨q1, q2, q3, cutF_all (by omega) B c, by omega⟩
theorem symOk_hold {B K : Nat} {c : List UInt8} (h : cutCheck B K = 0) (hl : c.length = B) {s : Sm} (hs : SymOk B K c s) : Fit (cutF K B c).length K (symRow (cutF K B c).length s) ∧ Hold (cutF K B c) (vc (symRow (cutF K B c).length s)) := by
  obtain ⟨_, _, _, hall, _⟩ := cutF_facts h hl
  have hsel : ∀ y ∈ sel (pickHas s.id.toNat (cutF K B c).length) (cutF K B c), y.length = K := fun y hy => hall y (sel_mem hy)
  refine ⟨⟨length_pickHas _ _, ?_⟩, fun i => ?_⟩
  · show s.data.length = K
    rw [hs.data]
    exact length_xorAll hsel (by simp [zeros])
  · show s.data.getD i 0 = evf _ (fun k => (pickHas s.id.toNat (cutF K B c).length).getD k false) i
    rw [hs.data]
    unfold xorAll
    rw [foldl_getD _ _ hsel (by simp [zeros]), sel_ev i _ _ (length_pickHas _ _)]
    have : (zeros K).getD i 0 = 0 := by unfold zeros; simp [List.getD_eq_getElem?_getD, List.getElem?_replicate]; split <;> rfl
    rw [this, UInt8.zero_xor]

/-- The rows of symbols. -/
def GS (b : Nat) (xs : List Sm) (g : Vc) : Prop := ∃ x ∈ xs, g = vc (symRow b x)
/-- A system that symbols made. -/
structure Made (b K : Nat) (xs : List Sm) (rows : List Rw) : Prop where
  sys : Sys b K rows
  span : ∀ v, Sp (pl rows) v ↔ Span (GS b xs) v
theorem made_nil (b K : Nat) : Made b K [] [] := ⟨⟨fun _ h => (by cases h), fun _ h => (by cases h), Ech.nil⟩, fun v => ⟨fun h => h.le fun g ⟨a, ha, _⟩ => (by cases ha), fun h => h.le fun g ⟨a, ha, _⟩ => (by cases ha)⟩⟩
/-- One symbol more. -/
theorem made_snoc {b K : Nat} {xs : List Sm} {rows rows' : List Rw} {x : Sm} {m : Bool} (hB : 1 ≤ b ∧ b ≤ 24) (hK : 1 ≤ K ∧ K ≤ 16) (h : Made b K xs rows) (hf : Fit b K (symRow b x)) (e : sysAdd ⟨b, K, rows⟩ (symRow b x) = (⟨b, K, rows'⟩, m, 0)) :
    Made b K (xs ++ [x]) rows' ∧ rows'.length = rows.length + (if m then 1 else 0) := by
  obtain ⟨b', k', e1, e2, _, _, _, hs, _, _, _, hcase⟩ := sysAdd_ok0 (B := b) (K := K) (rows := rows) (r := symRow b x) (by rw [e])
  obtain rfl : b' = b := by omega
  obtain rfl : k' = K := by omega
  rw [e] at hcase
  have hw : ∀ v, Span (With rows (symRow b' x)) v ↔ Span (GS b' (xs ++ [x])) v := by
    intro v
    constructor
    · refine Span.le fun g hg => ?_
      rcases hg with hg | rfl
      · exact ((h.span g).1 (.of hg)).mono fun g ⟨y, hy, e⟩ => ⟨y, List.mem_append_left _ hy, e⟩
      · exact .of ⟨x, by simp, rfl⟩
    · refine Span.le fun g hg => ?_
      obtain ⟨y, hy, rfl⟩ := hg
      rcases List.mem_append.1 hy with hy | hy
      · exact ((h.span _).2 (.of ⟨y, hy, rfl⟩)).mono fun g hg => .inl hg
      · obtain rfl := List.mem_singleton.1 hy
        exact .of (.inr rfl)
  rcases hcase with ⟨h1, h2, hsp⟩ | ⟨i, h1, h2, hl, hs', hsp⟩
  · simp only [] at h1 h2
    subst h1 h2
    refine ⟨⟨hs, fun v => Iff.trans ?_ (hw v)⟩, by simp⟩
    constructor
    · exact fun hv => hv.mono fun g hg => .inl hg
    · refine Span.le fun g hg => ?_
      rcases hg with hg | rfl
      · exact .of hg
      · exact hsp
  · simp only [] at h1 h2
    subst h1 h2
    exact ⟨⟨hs', fun v => (hsp v).trans (hw v)⟩, by rw [length_insRow]; simp⟩
/-- Symbols of one cargo never contradict. -/
theorem hold_add {b K : Nat} {bl : List (List UInt8)} {rows : List Rw} {r : Rw} (hB : 1 ≤ b ∧ b ≤ 24) (hK : 1 ≤ K ∧ K ≤ 16) (hs : Sys b K rows) (hf : Fit b K r) (hr : ∀ v, Sp (pl rows) v → Hold bl v) (hh : Hold bl (vc r)) : ∃ rows' m, sysAdd ⟨b, K, rows⟩ r = (⟨b, K, rows'⟩, m, 0) := by
  unfold sysAdd
  rw [if_neg (by simp [sysCheck_of hB hK hs]), if_neg (by simp [hf.1, hf.2])]
  rcases addRow_cases hs hf with ⟨e, _⟩ | ⟨e, v, hv, h0, hne⟩ | ⟨rows', k, e, _⟩
  · rw [e]; exact ⟨_, _, rfl⟩
  · exfalso
    have : Hold bl v := Hold.span (fun g hg => by
      rcases hg with hg | rfl
      · exact hr g (.of hg)
      · exact hh) hv
    refine hne (Vc.ext' h0 fun i => ?_)
    rw [this i, evf_none i bl _ h0]; rfl
  · rw [e]; exact ⟨_, _, rfl⟩
/-- What is known is a block of it. -/
theorem known_block {b K : Nat} {bl : List (List UInt8)} {rows : List Rw} (hs : Sys b K rows) (hl : bl.length = b) (hall : ∀ y ∈ bl, y.length = K) (hr : ∀ v, Sp (pl rows) v → Hold bl v) {k : Nat} {x : List UInt8} (hx : (knownF b rows)[k]? = some x) (hne : x ≠ []) : bl[k]? = some x := by
  rcases known_of hs hx with h1 | ⟨o, ho, hu, rfl, rfl⟩
  · exact absurd h1 hne
  · obtain ⟨l, e, hl2, hlt⟩ := hs.leads ho
    have hh := hr _ (.of (of_mem ho))
    have hun := (unit_iff e).1 hu
    rw [e, Int.toNat_natCast]
    have hlb : l < bl.length := by omega
    rw [List.getElem?_eq_getElem hlb]
    congr 1
    refine list_ext_getD (d := 0) ?_ fun i => ?_
    · rw [hall _ (List.getElem_mem hlb), (hs.fit o ho).2]
    · have h1 := hh i
      rw [evf_unit i bl _ l hl2.1 hun] at h1
      have h2 : (bl.getD l []) = bl[l] := by rw [List.getD_eq_getElem?_getD, List.getElem?_eq_getElem hlb]; rfl
      rw [h2] at h1
      exact h1.symm
/-- As many rows as blocks: all is known. -/
theorem full_unit {b K : Nat} {rows : List Rw} (hs : Sys b K rows) (hfull : b ≤ rows.length) : ∀ k, k < b → ∃ o ∈ rows, o.fst = (k : Int) ∧ o.unit = true := by
  have hn : ((pl rows).map (·.1)).Nodup := by
    rw [List.Nodup, List.pairwise_map]
    exact hs.ech.up.imp fun x => Nat.ne_of_lt x.1
  have hin : ∀ j ∈ (pl rows).map (·.1), j < b := fun j hj => by
    obtain ⟨a, ha, rfl⟩ := List.mem_map.1 hj
    obtain ⟨r, hr, rfl⟩ := List.mem_map.1 ha
    obtain ⟨k, e, _, hlt⟩ := hs.leads hr
    simp only []; omega
  have hall : ∀ k, k < b → ∃ o ∈ rows, o.fst = (k : Int) := fun k hk => by
    by_cases h : k ∈ (pl rows).map (·.1)
    · obtain ⟨a, ha, e⟩ := List.mem_map.1 h
      obtain ⟨r, hr, rfl⟩ := List.mem_map.1 ha
      obtain ⟨j, e2, _⟩ := hs.leads hr
      exact ⟨r, hr, by simp only [] at e; omega⟩
    · exfalso
      have := nodup_le hn (m := (List.range b).erase k) fun j hj => by
        refine (List.mem_erase_of_ne (fun e => h (by rw [← e]; exact hj))).2 (List.mem_range.2 (hin j hj))
      rw [List.length_erase_of_mem (List.mem_range.2 hk), List.length_range] at this
      simp [pl] at this
      omega
  intro k hk
  obtain ⟨o, ho, e⟩ := hall k hk
  refine ⟨o, ho, e, (unit_iff e).2 fun j hj => ?_⟩
  rcases Nat.lt_or_ge j b with hjb | hjb
  · obtain ⟨o', ho', e'⟩ := hall j hjb
    have := hs.ech.apart (List.mem_map.2 ⟨o, ho, rfl⟩) (List.mem_map.2 ⟨o', ho', rfl⟩) (by simp only []; omega)
    simp only [e', Int.toNat_natCast] at this
    exact this
  · show o.has.getD j false = false
    rw [List.getD_eq_getElem?_getD, List.getElem?_eq_none (by rw [(hs.fit o ho).1]; exact hjb)]; rfl
theorem known_full {b K : Nat} {bl : List (List UInt8)} {rows : List Rw} (hs : Sys b K rows) (hK : 1 ≤ K) (hl : bl.length = b) (hall : ∀ y ∈ bl, y.length = K) (hr : ∀ v, Sp (pl rows) v → Hold bl v) (hfull : b ≤ rows.length) : knownF b rows = bl := by
  apply List.ext_getElem?
  intro k
  rcases Nat.lt_or_ge k b with hk | hk
  · obtain ⟨o, ho, e, hu⟩ := full_unit hs hfull k hk
    have h1 := known_mem hs ho hu
    rw [e, Int.toNat_natCast] at h1
    rw [h1]
    exact (known_block hs hl hall hr h1 (fun e => by have := (hs.fit o ho).2; rw [e] at this; simp at this; omega)).symm
  · rw [List.getElem?_eq_none (by rw [length_knownF]; exact hk), List.getElem?_eq_none (by omega)]
/-- More that is said, no fewer rows. -/
theorem made_le {b K : Nat} {xs ys : List Sm} {rows rows' : List Rw} (h : Made b K xs rows) (h' : Made b K ys rows') (hle : ∀ x ∈ xs, x ∈ ys) : rows.length ≤ rows'.length := by
  have := ech_card (ps := pl rows) (qs := pl rows') h.sys.ech fun a ha => by
    obtain ⟨r, hr, rfl⟩ := List.mem_map.1 ha
    have h1 : Sp (pl rows') (vc r) := (h'.span _).2 (((h.span _).1 (.of (of_mem hr))).mono fun g ⟨y, hy, e⟩ => ⟨y, hle y hy, e⟩)
    exact span_lead h'.sys.ech h1 (h.sys.ech.lead _ ha)
  simpa [pl] using this
end Go.Proofs.Ytojoodmnmhcojaa
