/- The texts of records, in plain words. No condition; no program in sight. -/
import Derived.Test.YtbincgbgeccccaaGreatDoorNoteP
import Derived.Lib.ItoaNum
import Derived.Lib.AtoiAll
import Derived.Lib.SplitLaws
import Derived.Lib.Join
import Derived.Lib.IndexBytes
set_option linter.unusedSimpArgs false
set_option linter.unusedVariables false
namespace Go.Proofs.YtbincgbgeccccaaGreatDoor

/-! Pieces between a byte. -/
def pieces (c : UInt8) : List UInt8 → List (List UInt8)
  | [] => [[]]
  | x :: l => if x = c then [] :: pieces c l else match pieces c l with
    | p :: ps => (x :: p) :: ps
    | [] => [[x]]
theorem pieces_ne (c : UInt8) : ∀ l, pieces c l ≠ []
  | [] => by simp [pieces]
  | x :: l => by
    unfold pieces
    split
    · simp
    · split <;> simp
theorem pieces_hit (c : UInt8) (a b : List UInt8) (h : c ∉ a) : pieces c (a ++ c :: b) = a :: pieces c b := by
  induction a with
  | nil => simp [pieces]
  | cons x a ih =>
    rw [List.cons_append, pieces, if_neg (fun e => h (by simp [e])), ih fun hm => h (List.mem_cons_of_mem _ hm)]
theorem pieces_miss (c : UInt8) (a : List UInt8) (h : c ∉ a) : pieces c a = [a] := by
  induction a with
  | nil => rfl
  | cons x a ih => rw [pieces, if_neg (fun e => h (by simp [e])), ih fun hm => h (List.mem_cons_of_mem _ hm)]
theorem join_cons2 (x y : List UInt8) (l : List (List UInt8)) (sep : List UInt8) : Lib.join (x :: y :: l) sep = x ++ sep ++ Lib.join (y :: l) sep := by
  rw [Lib.join_cons, Lib.join_cons]; simp [Lib.joinTail, List.append_assoc]
theorem join_pieces (c : UInt8) : ∀ l, Lib.join (pieces c l) [c] = l
  | [] => by simp [pieces, Lib.join_one]
  | x :: l => by
    have ih := join_pieces c l
    have hn := pieces_ne c l
    unfold pieces
    cases hp : pieces c l with
    | nil => exact absurd hp hn
    | cons p ps =>
      rw [hp] at ih
      split
      · rename_i h
        rw [join_cons2, ih, h]; rfl
      · simp only []
        rw [Lib.join_cons] at ih ⊢
        rw [List.cons_append, ih]
theorem pieces_join (c : UInt8) : ∀ (ws : List (List UInt8)), ws ≠ [] → (∀ w ∈ ws, c ∉ w) → pieces c (Lib.join ws [c]) = ws
  | [], h, _ => absurd rfl h
  | [w], _, h => by rw [Lib.join_one, pieces_miss c w (h w (by simp))]
  | w :: v :: ws, _, h => by
    rw [join_cons2, List.append_assoc, List.singleton_append, pieces_hit c _ _ (h w (by simp)), pieces_join c (v :: ws) (by simp) fun x hx => h x (List.mem_cons_of_mem _ hx)]
theorem indexByte_split {l : List UInt8} {c : UInt8} {o : Nat} (h : Lib.indexByte l c = o) : o < l.length ∧ c ∉ l.take o ∧ l = l.take o ++ c :: l.drop (o + 1) := by
  obtain ⟨h1, h2⟩ := Lib.indexByte_some h
  obtain ⟨hl, e⟩ := List.getElem?_eq_some_iff.1 h1
  refine ⟨hl, fun hm => ?_, ?_⟩
  · obtain ⟨k, hk⟩ := List.mem_iff_getElem?.1 hm
    rw [List.getElem?_take] at hk
    split at hk
    · exact h2 k (by assumption) hk
    · cases hk
  · rw [← e, List.getElem_cons_drop, List.take_append_drop]
theorem indexByte_miss {l : List UInt8} {c : UInt8} (h : Lib.indexByte l c = -1) : c ∉ l := fun hm => by
  obtain ⟨k, hk⟩ := List.mem_iff_getElem?.1 hm
  exact Lib.indexByte_none h k hk
theorem split_eq (c : UInt8) : ∀ (k : Nat) (l : List UInt8), l.length ≤ k → Lib.split l [c] = pieces c l := by
  intro k
  induction k with
  | zero =>
    intro l hl
    obtain rfl : l = [] := List.eq_nil_of_length_eq_zero (by omega)
    rfl
  | succ k ih =>
    intro l hl
    have hi := Lib.index_one l c
    have hge := Lib.indexByte_ge l c
    unfold Lib.split
    by_cases hm : Lib.indexByte l c = -1
    · have h1 : Lib.index l [c] = -1 := by rw [hi, hm]
      rw [Lib.count_miss h1, pieces_miss c l (indexByte_miss hm)]; rfl
    · obtain ⟨o, ho⟩ := Int.eq_ofNat_of_zero_le (show 0 ≤ Lib.indexByte l c by omega)
      obtain ⟨h2, h3, h4⟩ := indexByte_split ho
      have h1 : Lib.index l [c] = (o : Int) := by rw [hi, ho]
      rw [Lib.count_hit (by simp) h1, Nat.add_comm, Lib.splitK, if_neg (by rw [h1]; simp), h1]
      have h5 : (o : Int).toNat = o := Int.toNat_natCast o
      have h6 : ([c] : List UInt8).length = 1 := rfl
      rw [h5, h6, Nat.add_zero]
      have := ih (l.drop (o + 1)) (by rw [List.length_drop]; omega)
      unfold Lib.split at this
      rw [this]
      conv => rhs; rw [h4, pieces_hit c _ _ h3]

/-! Numbers. -/
theorem dec_bytes (u : Nat) : ∀ b ∈ Lib.decDigits u, 48 ≤ b.toNat ∧ b.toNat ≤ 57 := by
  induction u using Nat.strongRecOn with
  | _ u ih =>
    intro b hb
    rw [Lib.decDigits] at hb
    split at hb
    · obtain rfl := List.mem_singleton.1 hb
      rw [UInt8.toNat_ofNat']; omega
    · rcases List.mem_append.1 hb with hb | hb
      · exact ih (u / 10) (by omega) b hb
      · obtain rfl := List.mem_singleton.1 hb
        rw [UInt8.toNat_ofNat']; omega
theorem dec_ne (u : Nat) : Lib.decDigits u ≠ [] := by
  rw [Lib.decDigits]
  split <;> simp
theorem parse_append : ∀ (l r : List UInt8) (acc m : Nat), Lib.parseUint10 acc l = .ok m → Lib.parseUint10 acc (l ++ r) = Lib.parseUint10 m r
  | [], r, acc, m, h => by
    simp only [Lib.parseUint10] at h
    injection h with h
    rw [List.nil_append, h]
  | c :: l, r, acc, m, h => by
    rw [List.cons_append]
    simp only [Lib.parseUint10] at h ⊢
    split at h
    · split at h
      · cases h
      · split at h
        · cases h
        · rename_i h1 h2 h3
          rw [if_pos h1, if_neg h2, if_neg h3]
          exact parse_append l r _ m h
    · cases h
theorem parse_dec (u : Nat) (hu : u < 18446744073709551616) : Lib.parseUint10 0 (Lib.decDigits u) = .ok u := by
  induction u using Nat.strongRecOn with
  | _ u ih =>
    rw [Lib.decDigits]
    split
    · rename_i h
      have e : (UInt8.ofNat (48 + u)).toNat = 48 + u := by rw [UInt8.toNat_ofNat']; omega
      simp only [Lib.parseUint10, e]
      rw [if_pos (by omega), if_neg (by omega), if_neg (by omega)]
      congr 1; omega
    · rename_i h
      have e : (UInt8.ofNat (48 + u % 10)).toNat = 48 + u % 10 := by rw [UInt8.toNat_ofNat']; omega
      rw [parse_append _ _ _ _ (ih (u / 10) (by omega) (by omega))]
      simp only [Lib.parseUint10, e]
      rw [if_pos (by omega), if_neg (by omega), if_neg (by omega)]
      congr 1; omega
theorem atoi_itoa {n : Int} (h : wfI n) : Lib.atoiAll (Lib.itoa n) = .ok n := by
  have hb := h.bd
  unfold Lib.itoa
  split
  · rename_i hn
    have h1 := parse_dec n.natAbs (by omega)
    unfold Lib.atoiAll
    simp only [show (45 : UInt8).toNat = 45 from rfl, or_true, if_true, Lib.parseMag, if_neg (dec_ne n.natAbs), h1, not_true_eq_false, false_and, if_false, true_and]
    rw [if_neg (by omega)]
    congr 1; omega
  · rename_i hn
    have h1 := parse_dec n.toNat (by omega)
    have h2 := dec_bytes n.toNat
    cases hd : Lib.decDigits n.toNat with
    | nil => exact absurd hd (dec_ne _)
    | cons c r =>
      have hc := h2 c (by rw [hd]; exact List.mem_cons_self)
      rw [hd] at h1
      unfold Lib.atoiAll
      have e1 : ¬ (c.toNat = 43 ∨ c.toNat = 45) := by omega
      have e2 : ¬ c.toNat = 45 := by omega
      have e3 : ¬ c.toNat = 43 := by omega
      simp only [e2, e3, or_self, if_false, Lib.parseMag, if_neg (List.cons_ne_nil c r), h1, not_false_eq_true, true_and, false_and]
      rw [if_neg (by omega)]
      congr 1; omega
theorem itoa_bytes (n : Int) : ∀ b ∈ Lib.itoa n, b ≠ 32 ∧ b ≠ 10 := by
  intro b hb
  unfold Lib.itoa at hb
  have key : ∀ u, b ∈ Lib.decDigits u → b ≠ 32 ∧ b ≠ 10 := fun u h => by
    have := dec_bytes u b h
    refine ⟨?_, ?_⟩ <;> rintro rfl <;> revert this <;> decide
  split at hb
  · rcases List.mem_cons.1 hb with rfl | hb
    · decide
    · exact key _ hb
  · exact key _ hb
/-- A word that is a number, written so. -/
def intR (w : List UInt8) : Option Int := match Lib.atoiAll w with
  | .ok v => if Lib.itoa v = w then some v else none
  | _ => none
theorem intR_itoa {n : Int} (h : wfI n) : intR (Lib.itoa n) = some n := by
  unfold intR; rw [atoi_itoa h]; simp
theorem intR_some {w : List UInt8} {v : Int} (h : intR w = some v) : Lib.itoa v = w := by
  unfold intR at h
  split at h
  · split at h
    · rename_i e; injection h with h; rw [← h]; exact e
    · cases h
  · cases h
def intsR : List (List UInt8) → Option (List Int)
  | [] => some []
  | w :: ws => match intR w with
    | none => none
    | some v => match intsR ws with
      | none => none
      | some vs => some (v :: vs)
theorem intsR_itoa : ∀ (ns : List Int), (∀ n ∈ ns, wfI n) → intsR (ns.map Lib.itoa) = some ns
  | [], _ => rfl
  | n :: ns, h => by
    rw [List.map_cons, intsR, intR_itoa (h n (by simp))]
    simp only []
    rw [intsR_itoa ns fun x hx => h x (List.mem_cons_of_mem _ hx)]
theorem intsR_some : ∀ {ws : List (List UInt8)} {vs : List Int}, intsR ws = some vs → vs.map Lib.itoa = ws
  | [], vs, h => by injection h with h; subst h; rfl
  | w :: ws, vs, h => by
    unfold intsR at h
    split at h
    · cases h
    · rename_i v hv
      split at h
      · cases h
      · rename_i vs' hvs
        injection h with h
        subst h
        rw [List.map_cons, intR_some hv, intsR_some hvs]
theorem intsR_none {ws : List (List UInt8)} {k : Nat} {w : List UInt8} (hk : ws[k]? = some w) (h : intR w = none) : intsR ws = none := by
  induction ws generalizing k with
  | nil => simp at hk
  | cons v ws ih =>
    unfold intsR
    cases k with
    | zero =>
      simp at hk; subst hk
      rw [h]
    | succ k =>
      rw [ih (by simpa using hk)]
      split
      · rfl
      · rfl
theorem intsR_snoc {ws : List (List UInt8)} {vs : List Int} {w : List UInt8} {v : Int} (h : intsR ws = some vs) (hw : intR w = some v) : intsR (ws ++ [w]) = some (vs ++ [v]) := by
  induction ws generalizing vs with
  | nil => injection h with h; subst h; simp [intsR, hw]
  | cons x ws ih =>
    unfold intsR at h
    split at h
    · cases h
    · rename_i y hy
      split at h
      · cases h
      · rename_i ys hys
        injection h with h
        subst h
        rw [List.cons_append, intsR, hy]
        simp only []
        rw [ih hys]; rfl

/-! Bytes as two digits each. -/
def sixteen : List UInt8 := [48, 49, 50, 51, 52, 53, 54, 55, 56, 57, 97, 98, 99, 100, 101, 102]
def hexD (n : Nat) : UInt8 := sixteen.getD n 0
def hexE : List UInt8 → List UInt8
  | [] => []
  | x :: l => hexD (x.toNat / 16) :: hexD (x.toNat % 16) :: hexE l
def hexR : List UInt8 → Option (List UInt8)
  | [] => some []
  | [_] => none
  | a :: b :: l => if Lib.indexByte sixteen a < 0 ∨ Lib.indexByte sixteen b < 0 then none else match hexR l with
    | none => none
    | some r => some (UInt8.ofNat ((Lib.indexByte sixteen a).toNat * 16 + (Lib.indexByte sixteen b).toNat) :: r)
theorem hexD_index : ∀ n : Fin 16, Lib.indexByte sixteen (hexD n.val) = (n.val : Int) := by decide +kernel
theorem hexD_idx {n : Nat} (h : n < 16) : Lib.indexByte sixteen (hexD n) = (n : Int) := hexD_index ⟨n, h⟩
theorem index_hexD {a : UInt8} (h : 0 ≤ Lib.indexByte sixteen a) : (Lib.indexByte sixteen a).toNat < 16 ∧ hexD (Lib.indexByte sixteen a).toNat = a := by
  obtain ⟨o, ho⟩ := Int.eq_ofNat_of_zero_le h
  obtain ⟨h1, h2⟩ := Lib.indexByte_some ho
  have h3 := (List.getElem?_eq_some_iff.1 h1).1
  rw [ho, Int.toNat_natCast]
  refine ⟨h3, ?_⟩
  unfold hexD
  rw [List.getD_eq_getElem?_getD, h1]; rfl
theorem hexR_hexE : ∀ b : List UInt8, hexR (hexE b) = some b
  | [] => rfl
  | x :: l => by
    have hx := x.toNat_lt
    have h1 := hexD_idx (n := x.toNat / 16) (by omega)
    have h2 := hexD_idx (n := x.toNat % 16) (by omega)
    rw [hexE, hexR, if_neg (by rw [h1, h2]; omega), hexR_hexE l, h1, h2]
    simp only [Int.toNat_natCast]
    rw [show x.toNat / 16 * 16 + x.toNat % 16 = x.toNat by omega, UInt8.ofNat_toNat]
theorem hexE_hexR : ∀ {w b : List UInt8}, hexR w = some b → hexE b = w
  | [], b, h => by injection h with h; subst h; rfl
  | [_], b, h => by cases h
  | x :: y :: l, b, h => by
    rw [hexR] at h
    split at h
    · cases h
    · rename_i h0
      split at h
      · cases h
      · rename_i r hr
        injection h with h
        subst h
        obtain ⟨a1, a2⟩ := index_hexD (a := x) (by omega)
        obtain ⟨b1, b2⟩ := index_hexD (a := y) (by omega)
        rw [hexE, hexE_hexR hr]
        rw [show (UInt8.ofNat ((Lib.indexByte sixteen x).toNat * 16 + (Lib.indexByte sixteen y).toNat)).toNat = (Lib.indexByte sixteen x).toNat * 16 + (Lib.indexByte sixteen y).toNat by rw [UInt8.toNat_ofNat']; omega]
        rw [show ((Lib.indexByte sixteen x).toNat * 16 + (Lib.indexByte sixteen y).toNat) / 16 = (Lib.indexByte sixteen x).toNat by omega, show ((Lib.indexByte sixteen x).toNat * 16 + (Lib.indexByte sixteen y).toNat) % 16 = (Lib.indexByte sixteen y).toNat by omega, a2, b2]
theorem hexE_length : ∀ b : List UInt8, (hexE b).length = 2 * b.length
  | [] => rfl
  | x :: l => by simp only [hexE, List.length_cons, hexE_length l]; omega
theorem hexD_bytes : ∀ n : Fin 16, hexD n.val ≠ 32 ∧ hexD n.val ≠ 10 := by decide +kernel
theorem hexE_bytes : ∀ (b : List UInt8), ∀ x ∈ hexE b, x ≠ 32 ∧ x ≠ 10
  | [], x, h => by simp [hexE] at h
  | y :: l, x, h => by
    have hy := y.toNat_lt
    rw [hexE] at h
    rcases List.mem_cons.1 h with rfl | h
    · exact hexD_bytes ⟨y.toNat / 16, by omega⟩
    rcases List.mem_cons.1 h with rfl | h
    · exact hexD_bytes ⟨y.toNat % 16, by omega⟩
    · exact hexE_bytes l x h
/-- A word of bytes. -/
def wordR : List UInt8 → Option (List UInt8)
  | [] => none
  | x :: l => if x = 45 then hexR l else none
theorem wordR_some {w b : List UInt8} (h : wordR w = some b) : 45 :: hexE b = w := by
  cases w with
  | nil => cases h
  | cons x l =>
    rw [wordR] at h
    split at h
    · rename_i e; rw [hexE_hexR h, e]
    · cases h

/-! Records. -/
def recInts (r : Rc) : List Int := [r.kind, r.place, r.n, r.try_, r.h.frm, r.h.seq, r.h.to, r.h.till, r.h.bytes, r.h.block, r.s.id]
def recWords (r : Rc) : List (List UInt8) := (recInts r).map Lib.itoa ++ [45 :: hexE r.s.data, 45 :: hexE r.cargo]
def recText (r : Rc) : List UInt8 := Lib.join (recWords r) [32]
def recOf (ns : List Int) (d c : List UInt8) : Rc := ⟨ns.getD 0 0, ns.getD 1 0, ns.getD 2 0, ns.getD 3 0, ⟨ns.getD 4 0, ns.getD 5 0, ns.getD 6 0, ns.getD 7 0, ns.getD 8 0, ns.getD 9 0⟩, ⟨ns.getD 10 0, d⟩, c⟩
/-- What note.Print answers. -/
def printF (r : Rc) : List UInt8 × Int := if recCheck r ≠ 0 then ([], recCheck r) else (recText r, 0)
def recRead (s : List UInt8) : Rc × Int :=
  if (pieces 32 s).length ≠ 13 then (Rc.zero, 1)
  else match intsR ((pieces 32 s).take 11) with
  | none => (Rc.zero, 1)
  | some ns => match wordR ((pieces 32 s).getD 11 []) with
    | none => (Rc.zero, 1)
    | some d => match wordR ((pieces 32 s).getD 12 []) with
      | none => (Rc.zero, 1)
      | some c => if recCheck (recOf ns d c) ≠ 0 then (Rc.zero, recCheck (recOf ns d c)) else (recOf ns d c, 0)
/-- What note.Parse answers. -/
def parseF (s : List UInt8) : Rc × Int := if 60000 < s.length then (Rc.zero, 2) else recRead s
theorem recWords_length (r : Rc) : (recWords r).length = 13 := rfl
theorem recWords_bytes (r : Rc) : ∀ w ∈ recWords r, ∀ b ∈ w, b ≠ 32 ∧ b ≠ 10 := by
  intro w hw b hb
  unfold recWords at hw
  rcases List.mem_append.1 hw with hw | hw
  · obtain ⟨n, _, rfl⟩ := List.mem_map.1 hw
    exact itoa_bytes n b hb
  · simp only [List.mem_cons, List.not_mem_nil, or_false] at hw
    rcases hw with rfl | rfl
    all_goals
      rcases List.mem_cons.1 hb with rfl | hb
      · decide
      · exact hexE_bytes _ b hb
theorem pieces_recText (r : Rc) : pieces 32 (recText r) = recWords r := by
  unfold recText
  refine pieces_join 32 _ (by simp [recWords]) fun w hw hm => ?_
  exact (recWords_bytes r w hw 32 hm).1 rfl
theorem recInts_of {ns : List Int} (h : ns.length = 11) (d c : List UInt8) : recInts (recOf ns d c) = ns := by
  match ns, h with
  | [a0, a1, a2, a3, a4, a5, a6, a7, a8, a9, a10], _ => rfl
theorem recOf_ints (r : Rc) : recOf (recInts r) r.s.data r.cargo = r := rfl
theorem cutCheck_wf {B K : Int} (h : cutCheck B K = 0) : wfI B ∧ wfI K := by
  have := cutCheck_ok h
  exact ⟨wfI.mk (by omega), wfI.mk (by omega)⟩
theorem hdCheck_bd {h : Hd} (e : hdCheck h = 0) : (0 ≤ h.frm ∧ h.frm < 4) ∧ (0 ≤ h.to ∧ h.to < 4) ∧ (0 ≤ h.seq ∧ h.seq < 50) ∧ (1 ≤ h.till ∧ h.till ≤ 1000000) ∧ h.frm ≠ h.to ∧ cutCheck h.bytes h.block = 0 := by
  unfold hdCheck at e
  split at e
  · cases e
  split at e
  · cases e
  exact ⟨by omega, by omega, by omega, by omega, by assumption, e⟩
theorem hdCheck_wf {h : Hd} (e : hdCheck h = 0) : h.wf := by
  obtain ⟨h1, h2, h3, h4, _, h5⟩ := hdCheck_bd e
  exact ⟨wfI.mk (by omega), wfI.mk (by omega), wfI.mk (by omega), wfI.mk (by omega), cutCheck_wf h5⟩
theorem recCheck_wf {r : Rc} (e : recCheck r = 0) : r.wf := by
  have h := recCheck_ok e
  have hk := h.kind
  have hp := h.place
  have ht := h.try_
  have hn := h.n
  refine ⟨wfI.mk (by omega), wfI.mk (by omega), wfI.mk (by omega), wfI.mk (by omega), ?_, ?_⟩
  · by_cases h8 : r.kind = 8
    · rw [h.tick h8]; exact ⟨by decide, by decide, by decide, by decide, by decide, by decide⟩
    · exact hdCheck_wf (h.head h8)
  · by_cases h2 : r.kind = 2
    · have := (codeCheck_ok (h.sym h2)).2.1
      exact wfI.mk (by omega)
    · have hs : usS r.kind = false := by simp [usS, h2]
      have : r.s.id = 0 := by
        unfold recCheck at e
        split at e
        · cases e
        split at e
        · cases e
        rename_i a1 a2
        simp only [hs, true_and, not_or, ne_eq, Decidable.not_not] at a2
        exact a2.2.2.2.2.1.1
      rw [this]; decide
theorem recInts_wf {r : Rc} (h : r.wf) : ∀ n ∈ recInts r, wfI n := by
  obtain ⟨h1, h2, h3, h4, ⟨h5, h6, h7, h8, h9, h10⟩, h11⟩ := h
  intro n hn
  simp only [recInts, List.mem_cons, List.not_mem_nil, or_false] at hn
  rcases hn with rfl | rfl | rfl | rfl | rfl | rfl | rfl | rfl | rfl | rfl | rfl <;> assumption
/-- What is printed is read. -/
theorem read_print {r : Rc} (h : recCheck r = 0) : recRead (recText r) = (r, 0) := by
  unfold recRead
  rw [pieces_recText, recWords_length, if_neg (by simp)]
  have e1 : (recWords r).take 11 = (recInts r).map Lib.itoa := rfl
  have e2 : (recWords r).getD 11 [] = 45 :: hexE r.s.data := rfl
  have e3 : (recWords r).getD 12 [] = 45 :: hexE r.cargo := rfl
  rw [e1, e2, e3, intsR_itoa _ (recInts_wf (recCheck_wf h))]
  simp only [wordR, if_true, hexR_hexE]
  rw [recOf_ints]
  simp [h]
/-- What is read is printed as it was. -/
theorem print_read {s : List UInt8} {r : Rc} (h : recRead s = (r, 0)) : recText r = s ∧ recCheck r = 0 := by
  unfold recRead at h
  split at h
  · simp only [Prod.mk.injEq] at h; exact absurd h.2 (by decide)
  rename_i hl
  simp only [ne_eq, Decidable.not_not] at hl
  split at h
  · simp only [Prod.mk.injEq] at h; exact absurd h.2 (by decide)
  rename_i ns hns
  split at h
  · simp only [Prod.mk.injEq] at h; exact absurd h.2 (by decide)
  rename_i d hd
  split at h
  · simp only [Prod.mk.injEq] at h; exact absurd h.2 (by decide)
  rename_i c hc
  split at h
  · rename_i h1; simp only [Prod.mk.injEq] at h; exact absurd h.2 h1
  rename_i h1
  simp only [Prod.mk.injEq, and_true] at h
  subst h
  have hm := intsR_some hns
  have hn : ns.length = 11 := by
    have := congrArg List.length hm
    simp only [List.length_map, List.length_take, hl] at this
    simpa using this
  refine ⟨?_, by simpa using h1⟩
  unfold recText recWords
  rw [recInts_of hn, hm]
  have e1 : (recOf ns d c).s.data = d := rfl
  have e2 : (recOf ns d c).cargo = c := rfl
  rw [e1, e2, wordR_some hd, wordR_some hc]
  conv => rhs; rw [← join_pieces 32 s]
  congr 1
  generalize pieces 32 s = ws at hl
  match ws, hl with
  | [a0, a1, a2, a3, a4, a5, a6, a7, a8, a9, a10, a11, a12], _ => rfl
/-- Unlike records have unlike texts. -/
theorem recText_inj {r q : Rc} (hr : recCheck r = 0) (hq : recCheck q = 0) (e : recText r = recText q) : r = q := by
  have h1 := read_print hr
  rw [e, read_print hq] at h1
  exact (Prod.mk.inj h1).1.symm
theorem mem_join {c : List UInt8} {b : UInt8} : ∀ {ws : List (List UInt8)}, b ∈ Lib.join ws c → (∃ w ∈ ws, b ∈ w) ∨ b ∈ c
  | [], h => by simp [Lib.join_nil] at h
  | [w], h => by rw [Lib.join_one] at h; exact .inl ⟨w, by simp, h⟩
  | w :: v :: ws, h => by
    rw [join_cons2] at h
    rcases List.mem_append.1 h with h | h
    · rcases List.mem_append.1 h with h | h
      · exact .inl ⟨w, by simp, h⟩
      · exact .inr h
    · rcases mem_join h with ⟨x, hx, hb⟩ | hb
      · exact .inl ⟨x, List.mem_cons_of_mem _ hx, hb⟩
      · exact .inr hb
theorem recText_line (r : Rc) : (10 : UInt8) ∉ recText r := fun h => by
  rcases mem_join h with ⟨w, hw, hb⟩ | hb
  · exact (recWords_bytes r w hw 10 hb).2 rfl
  · simp at hb
end Go.Proofs.YtbincgbgeccccaaGreatDoor
