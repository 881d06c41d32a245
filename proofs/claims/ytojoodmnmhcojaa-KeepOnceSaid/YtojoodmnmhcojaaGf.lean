/- Plain linear algebra, bit by bit: rows in echelon form, what they span. No condition; no program in sight. -/
import Derived.Below
set_option linter.unusedSimpArgs false
set_option linter.unusedVariables false
namespace Go.Proofs.Ytojoodmnmhcojaa

/-- A row without an end: which blocks, what data. -/
structure Vc where
  h : Nat → Bool
  d : Nat → UInt8
theorem Vc.ext' {a b : Vc} (h1 : ∀ i, a.h i = b.h i) (h2 : ∀ i, a.d i = b.d i) : a = b := by
  cases a; cases b
  congr
  · exact funext h1
  · exact funext h2
def Vc.zero : Vc := ⟨fun _ => false, fun _ => 0⟩
instance : Add Vc := ⟨fun a b => ⟨fun i => a.h i ^^ b.h i, fun i => a.d i ^^^ b.d i⟩⟩
theorem Vc.add_h (a b : Vc) (i : Nat) : (a + b).h i = (a.h i ^^ b.h i) := rfl
theorem Vc.add_d (a b : Vc) (i : Nat) : (a + b).d i = (a.d i ^^^ b.d i) := rfl
theorem Vc.comm (a b : Vc) : a + b = b + a := Vc.ext' (fun i => by simp only [Vc.add_h, Bool.xor_comm]) (fun i => by simp only [Vc.add_d, UInt8.xor_comm])
theorem Vc.assoc (a b c : Vc) : a + b + c = a + (b + c) := Vc.ext' (fun i => by simp only [Vc.add_h, Bool.xor_assoc]) (fun i => by simp only [Vc.add_d, UInt8.xor_assoc])
instance : Std.Commutative (α := Vc) (· + ·) := ⟨Vc.comm⟩
instance : Std.Associative (α := Vc) (· + ·) := ⟨Vc.assoc⟩
theorem Vc.self (a : Vc) : a + a = Vc.zero := Vc.ext' (fun i => by simp [Vc.add_h, Vc.zero]) (fun i => by simp [Vc.add_d, Vc.zero])
theorem Vc.zero_add (a : Vc) : Vc.zero + a = a := Vc.ext' (fun i => by simp [Vc.add_h, Vc.zero]) (fun i => by simp [Vc.add_d, Vc.zero])
theorem Vc.add_zero (a : Vc) : a + Vc.zero = a := by rw [Vc.comm, Vc.zero_add]
theorem Vc.cancel (a b : Vc) : a + (a + b) = b := by rw [← Vc.assoc, Vc.self, Vc.zero_add]
theorem Vc.eq_of_add {a b : Vc} (h : a + b = Vc.zero) : a = b := by
  have := Vc.cancel a b
  rw [h, Vc.add_zero] at this
  exact this

/-- What some rows span. -/
inductive Span (G : Vc → Prop) : Vc → Prop
  | zero : Span G Vc.zero
  | add {g v : Vc} : G g → Span G v → Span G (g + v)
theorem Span.of {G : Vc → Prop} {g : Vc} (h : G g) : Span G g := by
  have := Span.add h Span.zero
  rwa [Vc.add_zero] at this
theorem Span.plus {G : Vc → Prop} {u v : Vc} (h : Span G u) (k : Span G v) : Span G (u + v) := by
  induction h with
  | zero => rwa [Vc.zero_add]
  | add hg _ ih => rw [Vc.assoc]; exact .add hg ih
theorem Span.le {G H : Vc → Prop} (hg : ∀ g, G g → Span H g) {v : Vc} (h : Span G v) : Span H v := by
  induction h with
  | zero => exact .zero
  | add h _ ih => exact (hg _ h).plus ih
theorem Span.mono {G H : Vc → Prop} (hg : ∀ g, G g → H g) {v : Vc} (h : Span G v) : Span H v := h.le fun g k => .of (hg g k)
/-- What holds of all rows, and of sums, holds of all that they span. -/
theorem Span.all {G : Vc → Prop} {P : Vc → Prop} (h0 : P Vc.zero) (ha : ∀ u v, P u → P v → P (u + v)) (hg : ∀ g, G g → P g) {v : Vc} (h : Span G v) : P v := by
  induction h with
  | zero => exact h0
  | add h _ ih => exact ha _ _ (hg _ h) ih
/-- One row more. -/
theorem Span.one {G H : Vc → Prop} {r : Vc} (hH : ∀ g, H g → G g ∨ g = r) {v : Vc} (h : Span H v) : Span G v ∨ ∃ s, Span G s ∧ v = s + r := by
  induction h with
  | zero => exact .inl .zero
  | add hg _ ih =>
    rcases hH _ hg with h1 | rfl
    · rcases ih with ih | ⟨s, hs, rfl⟩
      · exact .inl (.add h1 ih)
      · exact .inr ⟨_, .add h1 hs, (Vc.assoc _ _ _).symm⟩
    · rcases ih with ih | ⟨s, hs, rfl⟩
      · exact .inr ⟨_, ih, Vc.comm _ _⟩
      · refine .inl ?_
        rw [Vc.comm s, Vc.cancel]; exact hs

/-- The first block of a row. -/
def Lead (v : Vc) (k : Nat) : Prop := v.h k = true ∧ ∀ j, j < k → v.h j = false
theorem Lead.uniq {v : Vc} {k l : Nat} (h : Lead v k) (g : Lead v l) : k = l := by
  rcases Nat.lt_trichotomy k l with h1 | h1 | h1
  · have := g.2 k h1; rw [h.1] at this; cases this
  · exact h1
  · have := h.2 l h1; rw [g.1] at this; cases this
theorem lead_of {v : Vc} : ∀ {k : Nat}, v.h k = true → ∃ j, j ≤ k ∧ Lead v j := by
  intro k
  induction k using Nat.strongRecOn with
  | ind k ih =>
    intro hk
    by_cases h : ∃ j, j < k ∧ v.h j = true
    · obtain ⟨j, h1, h2⟩ := h
      obtain ⟨i, h3, h4⟩ := ih j h1 h2
      exact ⟨i, by omega, h4⟩
    · exact ⟨k, Nat.le_refl _, hk, fun j hj => by
        cases e : v.h j with
        | false => rfl
        | true => exact absurd ⟨j, hj, e⟩ h⟩

/-- Rows with their first blocks, rising; the first block of one is in no other one. -/
structure Ech (ps : List (Nat × Vc)) : Prop where
  up : ps.Pairwise fun a b => a.1 < b.1 ∧ a.2.h b.1 = false
  lead : ∀ a ∈ ps, Lead a.2 a.1
theorem Ech.tail {a : Nat × Vc} {ps : List (Nat × Vc)} (h : Ech (a :: ps)) : Ech ps := ⟨(List.pairwise_cons.1 h.up).2, fun b hb => h.lead b (List.mem_cons_of_mem _ hb)⟩
theorem Ech.nil : Ech [] := ⟨.nil, fun _ h => by cases h⟩
def Of (ps : List (Nat × Vc)) (g : Vc) : Prop := ∃ a ∈ ps, a.2 = g
abbrev Sp (ps : List (Nat × Vc)) : Vc → Prop := Span (Of ps)
/-- The sum of those whose first blocks it has. -/
def pj (ps : List (Nat × Vc)) (v : Vc) : Vc := ps.foldr (fun a acc => if v.h a.1 then a.2 + acc else acc) Vc.zero
theorem pj_cons (a : Nat × Vc) (ps : List (Nat × Vc)) (v : Vc) : pj (a :: ps) v = if v.h a.1 then a.2 + pj ps v else pj ps v := rfl
theorem pj_add (u v : Vc) : ∀ ps, pj ps (u + v) = pj ps u + pj ps v
  | [] => (Vc.zero_add _).symm
  | a :: ps => by
    rw [pj_cons, pj_cons, pj_cons, pj_add u v ps, Vc.add_h]
    cases u.h a.1 <;> cases v.h a.1
    · rfl
    · simp only [Bool.false_xor, if_true, Bool.false_eq_true, if_false]; ac_rfl
    · simp only [Bool.xor_false, if_true, Bool.false_eq_true, if_false]; ac_rfl
    · simp only [Bool.xor_self, if_true, Bool.false_eq_true, if_false]
      rw [show a.2 + pj ps u + (a.2 + pj ps v) = (a.2 + a.2) + (pj ps u + pj ps v) by ac_rfl, Vc.self, Vc.zero_add]
theorem pj_none {v : Vc} : ∀ {ps : List (Nat × Vc)}, (∀ a ∈ ps, v.h a.1 = false) → pj ps v = Vc.zero
  | [], _ => rfl
  | a :: ps, h => by
    rw [pj_cons, if_neg (by simp [h a (by simp)]), pj_none fun b hb => h b (List.mem_cons_of_mem _ hb)]
theorem pj_mem {ps : List (Nat × Vc)} (hE : Ech ps) : ∀ a ∈ ps, pj ps a.2 = a.2 := by
  induction ps with
  | nil => intro a h; cases h
  | cons b ps ih =>
    intro a ha
    rw [pj_cons]
    rcases List.mem_cons.1 ha with rfl | ha
    · rw [if_pos (hE.lead _ (by simp)).1, pj_none fun c hc => ((List.pairwise_cons.1 hE.up).1 c hc).2, Vc.add_zero]
    · have : a.2.h b.1 = false := (hE.lead a (List.mem_cons_of_mem _ ha)).2 _ ((List.pairwise_cons.1 hE.up).1 a ha).1
      rw [if_neg (by simp [this]), ih hE.tail a ha]
theorem pj_zero (ps : List (Nat × Vc)) : pj ps Vc.zero = Vc.zero := pj_none fun _ _ => rfl
theorem pj_span {ps : List (Nat × Vc)} (hE : Ech ps) {v : Vc} (h : Sp ps v) : pj ps v = v := by
  induction h with
  | zero => exact pj_zero ps
  | add hg _ ih =>
    obtain ⟨a, ha, rfl⟩ := hg
    rw [pj_add, ih, pj_mem hE a ha]
theorem span_pj (ps : List (Nat × Vc)) (v : Vc) : Sp ps (pj ps v) := by
  have : ∀ qs : List (Nat × Vc), (∀ a ∈ qs, a ∈ ps) → Sp ps (pj qs v) := by
    intro qs
    induction qs with
    | nil => intro _; exact .zero
    | cons a qs ih =>
      intro h
      rw [pj_cons]
      split
      · exact .add ⟨a, h a (by simp), rfl⟩ (ih fun b hb => h b (List.mem_cons_of_mem _ hb))
      · exact ih fun b hb => h b (List.mem_cons_of_mem _ hb)
  exact this ps fun _ h => h
/-- What has none of the first blocks is nought. -/
theorem span_zero {ps : List (Nat × Vc)} (hE : Ech ps) {v : Vc} (h : Sp ps v) (hn : ∀ a ∈ ps, v.h a.1 = false) : v = Vc.zero := by
  rw [← pj_span hE h, pj_none hn]
theorem pj_low {v : Vc} {k : Nat} : ∀ {ps : List (Nat × Vc)}, (∀ a ∈ ps, a.2.h k = false) → (pj ps v).h k = false
  | [], _ => rfl
  | a :: ps, h => by
    rw [pj_cons]
    have ih := pj_low (v := v) fun b hb => h b (List.mem_cons_of_mem a hb)
    split
    · rw [Vc.add_h, h a (by simp), ih]; rfl
    · exact ih
theorem pj_lead (v : Vc) : ∀ {ps : List (Nat × Vc)}, Ech ps → pj ps v = Vc.zero ∨ ∃ a ∈ ps, Lead (pj ps v) a.1
  | [], _ => .inl rfl
  | a :: ps, hE => by
    rw [pj_cons]
    have hup := (List.pairwise_cons.1 hE.up).1
    split
    · refine .inr ⟨a, by simp, ?_, fun j hj => ?_⟩
      · rw [Vc.add_h, (hE.lead a (by simp)).1, pj_low fun b hb => (hE.lead b (List.mem_cons_of_mem _ hb)).2 _ (hup b hb).1]; rfl
      · rw [Vc.add_h, (hE.lead a (by simp)).2 j hj, pj_low fun b hb => (hE.lead b (List.mem_cons_of_mem _ hb)).2 _ (Nat.lt_trans hj (hup b hb).1)]; rfl
    · rcases pj_lead v hE.tail with h | ⟨b, hb, h⟩
      · exact .inl h
      · exact .inr ⟨b, List.mem_cons_of_mem _ hb, h⟩
/-- The first blocks of what they span are theirs. -/
theorem span_lead {ps : List (Nat × Vc)} (hE : Ech ps) {v : Vc} (h : Sp ps v) {k : Nat} (hl : Lead v k) : ∃ a ∈ ps, a.1 = k := by
  rcases pj_lead v hE with h0 | ⟨a, ha, h1⟩
  · rw [pj_span hE h] at h0
    rw [h0] at hl
    cases hl.1
  · rw [pj_span hE h] at h1
    exact ⟨a, ha, h1.uniq hl⟩
theorem Ech.inj {ps : List (Nat × Vc)} (hE : Ech ps) {a b : Nat × Vc} (ha : a ∈ ps) (hb : b ∈ ps) (h : a.1 = b.1) : a = b := by
  induction ps with
  | nil => cases ha
  | cons c ps ih =>
    have hup := (List.pairwise_cons.1 hE.up).1
    rcases List.mem_cons.1 ha with e1 | ha
    · rcases List.mem_cons.1 hb with e2 | hb
      · rw [e1, e2]
      · have := (hup b hb).1; rw [e1] at h; omega
    · rcases List.mem_cons.1 hb with e2 | hb
      · have := (hup a ha).1; rw [e2] at h; omega
      · exact ih hE.tail ha hb
/-- Of two first blocks, neither is in the other's row. -/
theorem Ech.apart {ps : List (Nat × Vc)} (hE : Ech ps) {a b : Nat × Vc} (ha : a ∈ ps) (hb : b ∈ ps) (h : a.1 ≠ b.1) : a.2.h b.1 = false := by
  induction ps with
  | nil => cases ha
  | cons c ps ih =>
    have hup := (List.pairwise_cons.1 hE.up).1
    rcases List.mem_cons.1 ha with e1 | ha
    · rcases List.mem_cons.1 hb with e2 | hb
      · exact absurd (by rw [e1, e2]) h
      · rw [e1]; exact (hup b hb).2
    · rcases List.mem_cons.1 hb with e2 | hb
      · rw [e2]; exact (hE.lead a (List.mem_cons_of_mem _ ha)).2 _ (hup a ha).1
      · exact ih hE.tail ha hb

theorem ech_mem {ps qs : List (Nat × Vc)} (hp : Ech ps) (hq : Ech qs) (h : ∀ v, Sp ps v ↔ Sp qs v) {a : Nat × Vc} (ha : a ∈ ps) : a ∈ qs := by
  have hs : Sp ps a.2 := .of ⟨a, ha, rfl⟩
  obtain ⟨b, hb, e⟩ := span_lead hq ((h _).1 hs) (hp.lead a ha)
  have hsb : Sp ps b.2 := (h _).2 (.of ⟨b, hb, rfl⟩)
  have : a.2 + b.2 = Vc.zero := by
    refine span_zero hp (hs.plus hsb) fun c hc => ?_
    rw [Vc.add_h]
    by_cases ec : c.1 = a.1
    · rw [ec, (hp.lead a ha).1, ← e, (hq.lead b hb).1]; rfl
    · rw [hp.apart ha hc fun e' => ec e'.symm]
      obtain ⟨c', hc', ec'⟩ := span_lead hq ((h _).1 (.of ⟨c, hc, rfl⟩)) (hp.lead c hc)
      rw [← ec', hq.apart hb hc' fun e' => ec (by rw [← ec', ← e', e])]; rfl
  have e2 := Vc.eq_of_add this
  have : a = b := Prod.ext e.symm e2
  rw [this]; exact hb
theorem sorted_eq : ∀ {ps qs : List (Nat × Vc)}, ps.Pairwise (fun a b => a.1 < b.1) → qs.Pairwise (fun a b => a.1 < b.1) → (∀ a, a ∈ ps ↔ a ∈ qs) → ps = qs
  | [], [], _, _, _ => rfl
  | [], b :: qs, _, _, h => by have := (h b).2 (by simp); cases this
  | a :: ps, [], _, _, h => by have := (h a).1 (by simp); cases this
  | a :: ps, b :: qs, hp, hq, h => by
    obtain ⟨p1, p2⟩ := List.pairwise_cons.1 hp
    obtain ⟨q1, q2⟩ := List.pairwise_cons.1 hq
    have e : a = b := by
      rcases List.mem_cons.1 ((h a).1 (by simp)) with e | ha
      · exact e
      · rcases List.mem_cons.1 ((h b).2 (by simp)) with e | hb
        · exact e.symm
        · have := q1 a ha; have := p1 b hb; omega
    subst e
    rw [sorted_eq p2 q2 fun c => ⟨fun hc => ?_, fun hc => ?_⟩]
    · rcases List.mem_cons.1 ((h c).1 (List.mem_cons_of_mem _ hc)) with rfl | h'
      · have := p1 c hc; omega
      · exact h'
    · rcases List.mem_cons.1 ((h c).2 (List.mem_cons_of_mem _ hc)) with rfl | h'
      · have := q1 c hc; omega
      · exact h'
/-- Rows in echelon form that span the same are the same. -/
theorem ech_uniq {ps qs : List (Nat × Vc)} (hp : Ech ps) (hq : Ech qs) (h : ∀ v, Sp ps v ↔ Sp qs v) : ps = qs :=
  sorted_eq (hp.up.imp fun x => x.1) (hq.up.imp fun x => x.1) fun a => ⟨ech_mem hp hq h, ech_mem hq hp fun v => (h v).symm⟩
theorem nodup_le : ∀ {l m : List Nat}, l.Nodup → (∀ k ∈ l, k ∈ m) → l.length ≤ m.length
  | [], _, _, _ => Nat.zero_le _
  | a :: l, m, hn, h => by
    obtain ⟨h1, h2⟩ := List.nodup_cons.1 hn
    have ha := h a (by simp)
    have := nodup_le (m := m.erase a) h2 fun k hk => (List.mem_erase_of_ne (fun e => h1 (by rw [← e]; exact hk))).2 (h k (List.mem_cons_of_mem _ hk))
    rw [List.length_erase_of_mem ha] at this
    have := List.length_pos_of_mem ha
    simp only [List.length_cons]
    omega
/-- As many first blocks, no fewer rows. -/
theorem ech_card {ps qs : List (Nat × Vc)} (hp : Ech ps) (h : ∀ a ∈ ps, ∃ b ∈ qs, b.1 = a.1) : ps.length ≤ qs.length := by
  have hn : (ps.map (·.1)).Nodup := by
    rw [List.Nodup, List.pairwise_map]
    exact hp.up.imp fun x => Nat.ne_of_lt x.1
  have := nodup_le hn (m := qs.map (·.1)) fun k hk => by
    obtain ⟨a, ha, rfl⟩ := List.mem_map.1 hk
    obtain ⟨b, hb, e⟩ := h a ha
    exact List.mem_map.2 ⟨b, hb, e⟩
  simpa using this
end Go.Proofs.Ytojoodmnmhcojaa
