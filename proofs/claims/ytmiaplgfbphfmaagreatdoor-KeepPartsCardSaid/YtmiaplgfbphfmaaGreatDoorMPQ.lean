/- Records replayed in parts, and put on a disk one by one, in plain words. No condition; no program in sight. -/
import Derived.Test.YtmiaplgfbphfmaaGreatDoorMPR
import Derived.Lib.ItoaNum
import Derived.Lib.AtoiAll
import Derived.Lib.SplitLaws
import Derived.Lib.Join
import Derived.Lib.IndexBytes
import Derived.Test.YtmiaplgfbphfmaaGreatDoorMPX
set_option linter.unusedSimpArgs false
set_option linter.unusedVariables false
namespace Go.Proofs.YtmiaplgfbphfmaaGreatDoor

/-! Pieces between a byte. -/
def pieces (c : UInt8) : List UInt8 → List (List UInt8)
  | [] => [[]]
  | x :: l => if x = c then [] :: pieces c l else match pieces c l with
    | p :: ps => (x :: p) :: ps
    | [] => [[x]]
theorem pieces_ne (c : UInt8) : ∀ l, pieces c l ≠ []
  | [] => by simp [pieces]
  | x :: l => by
    unfold pieces
    split
    · simp
    · split <;> simp
theorem pieces_hit (c : UInt8) (a b : List UInt8) (h : c ∉ a) : pieces c (a ++ c :: b) = a :: pieces c b := by
  induction a with
  | nil => simp [pieces]
  | cons x a ih =>
    rw [List.cons_append, pieces, if_neg (fun e => h (by simp [e])), ih fun hm => h (List.mem_cons_of_mem _ hm)]
theorem pieces_miss (c : UInt8) (a : List UInt8) (h : c ∉ a) : pieces c a = [a] := by
  induction a with
  | nil => rfl
  | cons x a ih => rw [pieces, if_neg (fun e => h (by simp [e])), ih fun hm => h (List.mem_cons_of_mem _ hm)]
theorem join_cons2 (x y : List UInt8) (l : List (List UInt8)) (sep : List UInt8) : Lib.join (x :: y :: l) sep = x ++ sep ++ Lib.join (y :: l) sep := by
  rw [Lib.join_cons, Lib.join_cons]; simp [Lib.joinTail, List.append_assoc]
theorem join_pieces (c : UInt8) : ∀ l, Lib.join (pieces c l) [c] = l
  | [] => by simp [pieces, Lib.join_one]
  | x :: l => by
    have ih := join_pieces c l
    have hn := pieces_ne c l
    unfold pieces
    cases hp : pieces c l with
    | nil => exact absurd hp hn
    | cons p ps =>
      rw [hp] at ih
      split
      · rename_i h
        rw [join_cons2, ih, h]; rfl
      · simp only []
        rw [Lib.join_cons] at ih ⊢
        rw [List.cons_append, ih]
theorem pieces_join (c : UInt8) : ∀ (ws : List (List UInt8)), ws ≠ [] → (∀ w ∈ ws, c ∉ w) → pieces c (Lib.join ws [c]) = ws
  | [], h, _ => absurd rfl h
  | [w], _, h => by rw [Lib.join_one, pieces_miss c w (h w (by simp))]
  | w :: v :: ws, _, h => by
    rw [join_cons2, List.append_assoc, List.singleton_append, pieces_hit c _ _ (h w (by simp)), pieces_join c (v :: ws) (by simp) fun x hx => h x (List.mem_cons_of_mem _ hx)]
theorem indexByte_split {l : List UInt8} {c : UInt8} {o : Nat} (h : Lib.indexByte l c = o) : o < l.length ∧ c ∉ l.take o ∧ l = l.take o ++ c :: l.drop (o + 1) := by
  obtain ⟨h1, h2⟩ := Lib.indexByte_some h
  obtain ⟨hl, e⟩ := List.getElem?_eq_some_iff.1 h1
  refine ⟨hl, fun hm => ?_, ?_⟩
  · obtain ⟨k, hk⟩ := List.mem_iff_getElem?.1 hm
    rw [List.getElem?_take] at hk
    split at hk
    · exact h2 k (by assumption) hk
    · cases hk
  · rw [← e, List.getElem_cons_drop, List.take_append_drop]
theorem indexByte_miss {l : List UInt8} {c : UInt8} (h : Lib.indexByte l c = -1) : c ∉ l := fun hm => by
  obtain ⟨k, hk⟩ := List.mem_iff_getElem?.1 hm
  exact Lib.indexByte_none h k hk
theorem split_eq (c : UInt8) : ∀ (k : Nat) (l : List UInt8), l.length ≤ k → Lib.split l [c] = pieces c l := by
  intro k
  induction k with
  | zero =>
    intro l hl
    obtain rfl : l = [] := List.eq_nil_of_length_eq_zero (by omega)
    rfl
  | succ k ih =>
    intro l hl
    have hi := Lib.index_one l c
    have hge := Lib.indexByte_ge l c
    unfold Lib.split
    by_cases hm : Lib.indexByte l c = -1
    · have h1 : Lib.index l [c] = -1 := by rw [hi, hm]
      rw [Lib.count_miss h1, pieces_miss c l (indexByte_miss hm)]; rfl
    · obtain ⟨o, ho⟩ := Int.eq_ofNat_of_zero_le (show 0 ≤ Lib.indexByte l c by omega)
      obtain ⟨h2, h3, h4⟩ := indexByte_split ho
      have h1 : Lib.index l [c] = (o : Int) := by rw [hi, ho]
      rw [Lib.count_hit (by simp) h1, Nat.add_comm, Lib.splitK, if_neg (by rw [h1]; simp), h1]
      have h5 : (o : Int).toNat = o := Int.toNat_natCast o
      have h6 : ([c] : List UInt8).length = 1 := rfl
      rw [h5, h6, Nat.add_zero]
      have := ih (l.drop (o + 1)) (by rw [List.length_drop]; omega)
      unfold Lib.split at this
      rw [this]
      conv => rhs; rw [h4, pieces_hit c _ _ h3]

/-! Numbers. -/
theorem dec_bytes (u : Nat) : ∀ b ∈ Lib.decDigits u, 48 ≤ b.toNat ∧ b.toNat ≤ 57 := by
  induction u using Nat.strongRecOn with
  | _ u ih =>
    intro b hb
    rw [Lib.decDigits] at hb
    split at hb
    · obtain rfl := List.mem_singleton.1 hb
      rw [UInt8.toNat_ofNat']; omega
    · rcases List.mem_append.1 hb with hb | hb
      · exact ih (u / 10) (by omega) b hb
      · obtain rfl := List.mem_singleton.1 hb
        rw [UInt8.toNat_ofNat']; omega
theorem dec_ne (u : Nat) : Lib.decDigits u ≠ [] := by
  rw [Lib.decDigits]
  split <;> simp
theorem parse_append : ∀ (l r : List UInt8) (acc m : Nat), Lib.parseUint10 acc l = .ok m → Lib.parseUint10 acc (l ++ r) = Lib.parseUint10 m r
  | [], r, acc, m, h => by
    simp only [Lib.parseUint10] at h
    injection h with h
    rw [List.nil_append, h]
  | c :: l, r, acc, m, h => by
    rw [List.cons_append]
    simp only [Lib.parseUint10] at h ⊢
    split at h
    · split at h
      · cases h
      · split at h
        · cases h
        · rename_i h1 h2 h3
          rw [if_pos h1, if_neg h2, if_neg h3]
          exact parse_append l r _ m h
    · cases h
theorem parse_dec (u : Nat) (hu : u < 18446744073709551616) : Lib.parseUint10 0 (Lib.decDigits u) = .ok u := by
  induction u using Nat.strongRecOn with
  | _ u ih =>
    rw [Lib.decDigits]
    split
    · rename_i h
      have e : (UInt8.ofNat (48 + u)).toNat = 48 + u := by rw [UInt8.toNat_ofNat']; omega
      simp only [Lib.parseUint10, e]
      rw [if_pos (by omega), if_neg (by omega), if_neg (by omega)]
      congr 1; omega
    · rename_i h
      have e : (UInt8.ofNat (48 + u % 10)).toNat = 48 + u % 10 := by rw [UInt8.toNat_ofNat']; omega
      rw [parse_append _ _ _ _ (ih (u / 10) (by omega) (by omega))]
      simp only [Lib.parseUint10, e]
      rw [if_pos (by omega), if_neg (by omega), if_neg (by omega)]
      congr 1; omega
theorem atoi_itoa {n : Int} (h : wfI n) : Lib.atoiAll (Lib.itoa n) = .ok n := by
  have hb := h.bd
  unfold Lib.itoa
  split
  · rename_i hn
    have h1 := parse_dec n.natAbs (by omega)
    unfold Lib.atoiAll
    simp only [show (45 : UInt8).toNat = 45 from rfl, or_true, if_true, Lib.parseMag, if_neg (dec_ne n.natAbs), h1, not_true_eq_false, false_and, if_false, true_and]
    rw [if_neg (by omega)]
    congr 1; omega
  · rename_i hn
    have h1 := parse_dec n.toNat (by omega)
    have h2 := dec_bytes n.toNat
    cases hd : Lib.decDigits n.toNat with
    | nil => exact absurd hd (dec_ne _)
    | cons c r =>
      have hc := h2 c (by rw [hd]; exact List.mem_cons_self)
      rw [hd] at h1
      unfold Lib.atoiAll
      have e1 : ¬ (c.toNat = 43 ∨ c.toNat = 45) := by omega
      have e2 : ¬ c.toNat = 45 := by omega
      have e3 : ¬ c.toNat = 43 := by omega
      simp only [e2, e3, or_self, if_false, Lib.parseMag, if_neg (List.cons_ne_nil c r), h1, not_false_eq_true, true_and, false_and]
      rw [if_neg (by omega)]
      congr 1; omega
theorem itoa_bytes (n : Int) : ∀ b ∈ Lib.itoa n, b ≠ 32 ∧ b ≠ 10 := by
  intro b hb
  unfold Lib.itoa at hb
  have key : ∀ u, b ∈ Lib.decDigits u → b ≠ 32 ∧ b ≠ 10 := fun u h => by
    have := dec_bytes u b h
    refine ⟨?_, ?_⟩ <;> rintro rfl <;> revert this <;> decide
  split at hb
  · rcases List.mem_cons.1 hb with rfl | hb
    · decide
    · exact key _ hb
  · exact key _ hb
/-- A word that is a number, written so. -/
def intR (w : List UInt8) : Option Int := match Lib.atoiAll w with
  | .ok v => if Lib.itoa v = w then some v else none
  | _ => none
theorem intR_itoa {n : Int} (h : wfI n) : intR (Lib.itoa n) = some n := by
  unfold intR; rw [atoi_itoa h]; simp
theorem intR_some {w : List UInt8} {v : Int} (h : intR w = some v) : Lib.itoa v = w := by
  unfold intR at h
  split at h
  · split at h
    · rename_i e; injection h with h; rw [← h]; exact e
    · cases h
  · cases h
def intsR : List (List UInt8) → Option (List Int)
  | [] => some []
  | w :: ws => match intR w with
    | none => none
    | some v => match intsR ws with
      | none => none
      | some vs => some (v :: vs)
theorem intsR_itoa : ∀ (ns : List Int), (∀ n ∈ ns, wfI n) → intsR (ns.map Lib.itoa) = some ns
  | [], _ => rfl
  | n :: ns, h => by
    rw [List.map_cons, intsR, intR_itoa (h n (by simp))]
    simp only []
    rw [intsR_itoa ns fun x hx => h x (List.mem_cons_of_mem _ hx)]
theorem intsR_some : ∀ {ws : List (List UInt8)} {vs : List Int}, intsR ws = some vs → vs.map Lib.itoa = ws
  | [], vs, h => by injection h with h; subst h; rfl
  | w :: ws, vs, h => by
    unfold intsR at h
    split at h
    · cases h
    · rename_i v hv
      split at h
      · cases h
      · rename_i vs' hvs
        injection h with h
        subst h
        rw [List.map_cons, intR_some hv, intsR_some hvs]
theorem intsR_none {ws : List (List UInt8)} {k : Nat} {w : List UInt8} (hk : ws[k]? = some w) (h : intR w = none) : intsR ws = none := by
  induction ws generalizing k with
  | nil => simp at hk
  | cons v ws ih =>
    unfold intsR
    cases k with
    | zero =>
      simp at hk; subst hk
      rw [h]
    | succ k =>
      rw [ih (by simpa using hk)]
      split
      · rfl
      · rfl
theorem intsR_snoc {ws : List (List UInt8)} {vs : List Int} {w : List UInt8} {v : Int} (h : intsR ws = some vs) (hw : intR w = some v) : intsR (ws ++ [w]) = some (vs ++ [v]) := by
  induction ws generalizing vs with
  | nil => injection h with h; subst h; simp [intsR, hw]
  | cons x ws ih =>
    unfold intsR at h
    split at h
    · cases h
    · rename_i y hy
      split at h
      · cases h
      · rename_i ys hys
        injection h with h
        subst h
        rw [List.cons_append, intsR, hy]
        simp only []
        rw [ih hys]; rfl

/-! Bytes as two digits each. -/
def sixteen : List UInt8 := [48, 49, 50, 51, 52, 53, 54, 55, 56, 57, 97, 98, 99, 100, 101, 102]
def hexD (n : Nat) : UInt8 := sixteen.getD n 0
def hexE : List UInt8 → List UInt8
  | [] => []
  | x :: l => hexD (x.toNat / 16) :: hexD (x.toNat % 16) :: hexE l
def hexR : List UInt8 → Option (List UInt8)
  | [] => some []
  | [_] => none
  | a :: b :: l => if Lib.indexByte sixteen a < 0 ∨ Lib.indexByte sixteen b < 0 then none else match hexR l with
    | none => none
    | some r => some (UInt8.ofNat ((Lib.indexByte sixteen a).toNat * 16 + (Lib.indexByte sixteen b).toNat) :: r)
theorem hexD_index : ∀ n : Fin 16, Lib.indexByte sixteen (hexD n.val) = (n.val : Int) := by decide +kernel
theorem hexD_idx {n : Nat} (h : n < 16) : Lib.indexByte sixteen (hexD n) = (n : Int) := hexD_index ⟨n, h⟩
theorem index_hexD {a : UInt8} (h : 0 ≤ Lib.indexByte sixteen a) : (Lib.indexByte sixteen a).toNat < 16 ∧ hexD (Lib.indexByte sixteen a).toNat = a := by
  obtain ⟨o, ho⟩ := Int.eq_ofNat_of_zero_le h
  obtain ⟨h1, h2⟩ := Lib.indexByte_some ho
  have h3 := (List.getElem?_eq_some_iff.1 h1).1
  rw [ho, Int.toNat_natCast]
  refine ⟨h3, ?_⟩
  unfold hexD
  rw [List.getD_eq_getElem?_getD, h1]; rfl
theorem hexR_hexE : ∀ b : List UInt8, hexR (hexE b) = some b
  | [] => rfl
  | x :: l => by
    have hx := x.toNat_lt
    have h1 := hexD_idx (n := x.toNat / 16) (by omega)
    have h2 := hexD_idx (n := x.toNat % 16) (by omega)
    rw [hexE, hexR, if_neg (by rw [h1, h2]; omega), hexR_hexE l, h1, h2]
    simp only [Int.toNat_natCast]
    rw [show x.toNat / 16 * 16 + x.toNat % 16 = x.toNat by omega, UInt8.ofNat_toNat]
theorem hexE_hexR : ∀ {w b : List UInt8}, hexR w = some b → hexE b = w
  | [], b, h => by injection h with h; subst h; rfl
  | [_], b, h => by cases h
  | x :: y :: l, b, h => by
    rw [hexR] at h
    split at h
    · cases h
    · rename_i h0
      split at h
      · cases h
      · rename_i r hr
        injection h with h
        subst h
        obtain ⟨a1, a2⟩ := index_hexD (a := x) (by omega)
        obtain ⟨b1, b2⟩ := index_hexD (a := y) (by omega)
        rw [hexE, hexE_hexR hr]
        rw [show (UInt8.ofNat ((Lib.indexByte sixteen x).toNat * 16 + (Lib.indexByte sixteen y).toNat)).toNat = (Lib.indexByte sixteen x).toNat * 16 + (Lib.indexByte sixteen y).toNat by rw [UInt8.toNat_ofNat']; omega]
        rw [show ((Lib.indexByte sixteen x).toNat * 16 + (Lib.indexByte sixteen y).toNat) / 16 = (Lib.indexByte sixteen x).toNat by omega, show ((Lib.indexByte sixteen x).toNat * 16 + (Lib.indexByte sixteen y).toNat) % 16 = (Lib.indexByte sixteen y).toNat by omega, a2, b2]
theorem hexE_length : ∀ b : List UInt8, (hexE b).length = 2 * b.length
  | [] => rfl
  | x :: l => by simp only [hexE, List.length_cons, hexE_length l]; omega
theorem hexD_bytes : ∀ n : Fin 16, hexD n.val ≠ 32 ∧ hexD n.val ≠ 10 := by decide +kernel
theorem hexE_bytes : ∀ (b : List UInt8), ∀ x ∈ hexE b, x ≠ 32 ∧ x ≠ 10
  | [], x, h => by simp [hexE] at h
  | y :: l, x, h => by
    have hy := y.toNat_lt
    rw [hexE] at h
    rcases List.mem_cons.1 h with rfl | h
    · exact hexD_bytes ⟨y.toNat / 16, by omega⟩
    rcases List.mem_cons.1 h with rfl | h
    · exact hexD_bytes ⟨y.toNat % 16, by omega⟩
    · exact hexE_bytes l x h
/-- A word of bytes. -/
def wordR : List UInt8 → Option (List UInt8)
  | [] => none
  | x :: l => if x = 45 then hexR l else none
theorem wordR_some {w b : List UInt8} (h : wordR w = some b) : 45 :: hexE b = w := by
  cases w with
  | nil => cases h
  | cons x l =>
    rw [wordR] at h
    split at h
    · rename_i e; rw [hexE_hexR h, e]
    · cases h

/-! Records. -/
def recInts (r : Rc) : List Int := [r.kind, r.place, r.n, r.try_, r.h.frm, r.h.seq, r.h.to, r.h.till, r.h.bytes, r.h.block, r.s.id]
def recWords (r : Rc) : List (List UInt8) := (recInts r).map Lib.itoa ++ [45 :: hexE r.s.data, 45 :: hexE r.cargo]
def recText (r : Rc) : List UInt8 := Lib.join (recWords r) [32]
def recOf (ns : List Int) (d c : List UInt8) : Rc := ⟨ns.getD 0 0, ns.getD 1 0, ns.getD 2 0, ns.getD 3 0, ⟨ns.getD 4 0, ns.getD 5 0, ns.getD 6 0, ns.getD 7 0, ns.getD 8 0, ns.getD 9 0⟩, ⟨ns.getD 10 0, d⟩, c⟩
/-- What note.Print answers. -/
def printF (r : Rc) : List UInt8 × Int := if recCheck r ≠ 0 then ([], recCheck r) else (recText r, 0)
def recRead (s : List UInt8) : Rc × Int :=
  if (pieces 32 s).length ≠ 13 then (Rc.zero, 1)
  else match intsR ((pieces 32 s).take 11) with
  | none => (Rc.zero, 1)
  | some ns => match wordR ((pieces 32 s).getD 11 []) with
    | none => (Rc.zero, 1)
    | some d => match wordR ((pieces 32 s).getD 12 []) with
      | none => (Rc.zero, 1)
      | some c => if recCheck (recOf ns d c) ≠ 0 then (Rc.zero, recCheck (recOf ns d c)) else (recOf ns d c, 0)
/-- What note.Parse answers. -/
def parseF (s : List UInt8) : Rc × Int := if 60000 < s.length then (Rc.zero, 2) else recRead s
theorem recWords_length (r : Rc) : (recWords r).length = 13 := rfl
theorem recWords_bytes (r : Rc) : ∀ w ∈ recWords r, ∀ b ∈ w, b ≠ 32 ∧ b ≠ 10 := by
  intro w hw b hb
  unfold recWords at hw
  rcases List.mem_append.1 hw with hw | hw
  · obtain ⟨n, _, rfl⟩ := List.mem_map.1 hw
    exact itoa_bytes n b hb
  · simp only [List.mem_cons, List.not_mem_nil, or_false] at hw
    rcases hw with rfl | rfl
    all_goals
      rcases List.mem_cons.1 hb with rfl | hb
      · decide
      · exact hexE_bytes _ b hb
theorem pieces_recText (r : Rc) : pieces 32 (recText r) = recWords r := by
  unfold recText
  refine pieces_join 32 _ (by simp [recWords]) fun w hw hm => ?_
  exact (recWords_bytes r w hw 32 hm).1 rfl
theorem recInts_of {ns : List Int} (h : ns.length = 11) (d c : List UInt8) : recInts (recOf ns d c) = ns := by
  match ns, h with
  | [a0, a1, a2, a3, a4, a5, a6, a7, a8, a9, a10], _ => rfl
theorem recOf_ints (r : Rc) : recOf (recInts r) r.s.data r.cargo = r := rfl
theorem cutCheck_wf {B K : Int} (h : cutCheck B K = 0) : wfI B ∧ wfI K := by
  have := cutCheck_ok h
  exact ⟨wfI.mk (by omega), wfI.mk (by omega)⟩
theorem hdCheck_bd {h : Hd} (e : hdCheck h = 0) : (0 ≤ h.frm ∧ h.frm < 4) ∧ (0 ≤ h.to ∧ h.to < 4) ∧ (0 ≤ h.seq ∧ h.seq < 50) ∧ (1 ≤ h.till ∧ h.till ≤ 1000000) ∧ h.frm ≠ h.to ∧ cutCheck h.bytes h.block = 0 := by
  unfold hdCheck at e
  split at e
  · cases e
  split at e
  · cases e
  exact ⟨by omega, by omega, by omega, by omega, by assumption, e⟩
theorem hdCheck_wf {h : Hd} (e : hdCheck h = 0) : h.wf := by
  obtain ⟨h1, h2, h3, h4, _, h5⟩ := hdCheck_bd e
  exact ⟨wfI.mk (by omega), wfI.mk (by omega), wfI.mk (by omega), wfI.mk (by omega), cutCheck_wf h5⟩
theorem recCheck_wf {r : Rc} (e : recCheck r = 0) : r.wf := by
  have h := recCheck_ok e
  have hk := h.kind
  have hp := h.place
  have ht := h.try_
  have hn := h.n
  refine ⟨wfI.mk (by omega), wfI.mk (by omega), wfI.mk (by omega), wfI.mk (by omega), ?_, ?_⟩
  · by_cases h8 : r.kind = 8
    · rw [h.tick h8]; exact ⟨by decide, by decide, by decide, by decide, by decide, by decide⟩
    · exact hdCheck_wf (h.head h8)
  · by_cases h2 : r.kind = 2
    · have := (codeCheck_ok (h.sym h2)).2.1
      exact wfI.mk (by omega)
    · have hs : usS r.kind = false := by simp [usS, h2]
      have : r.s.id = 0 := by
        unfold recCheck at e
        split at e
        · cases e
        split at e
        · cases e
        rename_i a1 a2
        simp only [hs, true_and, not_or, ne_eq, Decidable.not_not] at a2
        exact a2.2.2.2.2.1.1
      rw [this]; decide
theorem recInts_wf {r : Rc} (h : r.wf) : ∀ n ∈ recInts r, wfI n := by
  obtain ⟨h1, h2, h3, h4, ⟨h5, h6, h7, h8, h9, h10⟩, h11⟩ := h
  intro n hn
  simp only [recInts, List.mem_cons, List.not_mem_nil, or_false] at hn
  rcases hn with rfl | rfl | rfl | rfl | rfl | rfl | rfl | rfl | rfl | rfl | rfl <;> assumption
/-- What is printed is read. -/
theorem read_print {r : Rc} (h : recCheck r = 0) : recRead (recText r) = (r, 0) := by
  unfold recRead
  rw [pieces_recText, recWords_length, if_neg (by simp)]
  have e1 : (recWords r).take 11 = (recInts r).map Lib.itoa := rfl
  have e2 : (recWords r).getD 11 [] = 45 :: hexE r.s.data := rfl
  have e3 : (recWords r).getD 12 [] = 45 :: hexE r.cargo := rfl
  rw [e1, e2, e3, intsR_itoa _ (recInts_wf (recCheck_wf h))]
  simp only [wordR, if_true, hexR_hexE]
  rw [recOf_ints]
  simp [h]
/-- What is read is printed as it was. -/
theorem print_read {s : List UInt8} {r : Rc} (h : recRead s = (r, 0)) : recText r = s ∧ recCheck r = 0 := by
  unfold recRead at h
  split at h
  · simp only [Prod.mk.injEq] at h; exact absurd h.2 (by decide)
  rename_i hl
  simp only [ne_eq, Decidable.not_not] at hl
  split at h
  · simp only [Prod.mk.injEq] at h; exact absurd h.2 (by decide)
  rename_i ns hns
  split at h
  · simp only [Prod.mk.injEq] at h; exact absurd h.2 (by decide)
  rename_i d hd
  split at h
  · simp only [Prod.mk.injEq] at h; exact absurd h.2 (by decide)
  rename_i c hc
  split at h
  · rename_i h1; simp only [Prod.mk.injEq] at h; exact absurd h.2 h1
  rename_i h1
  simp only [Prod.mk.injEq, and_true] at h
  subst h
  have hm := intsR_some hns
  have hn : ns.length = 11 := by
    have := congrArg List.length hm
    simp only [List.length_map, List.length_take, hl] at this
    simpa using this
  refine ⟨?_, by simpa using h1⟩
  unfold recText recWords
  rw [recInts_of hn, hm]
  have e1 : (recOf ns d c).s.data = d := rfl
  have e2 : (recOf ns d c).cargo = c := rfl
  rw [e1, e2, wordR_some hd, wordR_some hc]
  conv => rhs; rw [← join_pieces 32 s]
  congr 1
  generalize pieces 32 s = ws at hl
  match ws, hl with
  | [a0, a1, a2, a3, a4, a5, a6, a7, a8, a9, a10, a11, a12], _ => rfl
theorem mem_join {c : List UInt8} {b : UInt8} : ∀ {ws : List (List UInt8)}, b ∈ Lib.join ws c → (∃ w ∈ ws, b ∈ w) ∨ b ∈ c
  | [], h => by simp [Lib.join_nil] at h
  | [w], h => by rw [Lib.join_one] at h; exact .inl ⟨w, by simp, h⟩
  | w :: v :: ws, h => by
    rw [join_cons2] at h
    rcases List.mem_append.1 h with h | h
    · rcases List.mem_append.1 h with h | h
      · exact .inl ⟨w, by simp, h⟩
      · exact .inr h
    · rcases mem_join h with ⟨x, hx, hb⟩ | hb
      · exact .inl ⟨x, List.mem_cons_of_mem _ hx, hb⟩
      · exact .inr hb
theorem recText_line (r : Rc) : (10 : UInt8) ∉ recText r := fun h => by
  rcases mem_join h with ⟨w, hw, hb⟩ | hb
  · exact (recWords_bytes r w hw 10 hb).2 rfl
  · simp at hb
end Go.Proofs.YtmiaplgfbphfmaaGreatDoor
namespace Go.Proofs.YtmiaplgfbphfmaaGreatDoor

def symsErr (h : Hd) : List Sm → List Sm → Int
  | _, [] => 0
  | seen, s :: l => if codeCheck h.bytes h.block s.id s.data.length ≠ 0 then codeCheck h.bytes h.block s.id s.data.length else if seen.any (fun o => decide (o.id = s.id)) then 6 else symsErr h (seen ++ [s]) l
def tookErr : List Tk → List Tk → Int
  | _, [] => 0
  | seen, t :: l => if t.place < 0 ∨ 4 ≤ t.place ∨ t.try_ < 1 ∨ 9999 < t.try_ then 3 else if seen.any (fun o => decide (o = t)) then 6 else tookErr (seen ++ [t]) l
/-- What keep.shares answers. -/
def sharesCheck (k : Kp) (me : Int) : Int :=
  if k.shares < 0 ∨ 64 < k.shares ∨ k.giving < 0 ∨ 64 < k.giving ∨ k.towards < 0 ∨ 4 ≤ k.towards ∨ k.try_ < 0 ∨ 9999 < k.try_ then 3
  else if (k.giving = 0 ∧ k.towards ≠ 0) ∨ (0 < k.giving ∧ (k.towards = me ∨ k.try_ = 0)) then 4
  else if tookErr [] k.took ≠ 0 then tookErr [] k.took
  else if (k.delivered = true ∧ (k.h.to ≠ me ∨ k.purged = true)) ∨ ((k.delivered = true ∨ k.purged = true) ∧ (0 < k.syms.length ∨ 0 < k.shares + k.giving)) then 4 else 0
/-- What keep.kept answers. -/
def keptCheck (k : Kp) (me time : Int) : Int :=
  if hdCheck k.h ≠ 0 then hdCheck k.h
  else if k.h.till ≤ time then 7
  else if k.own ≠ decide (k.h.frm = me) ∨ k.own ≠ decide (0 < k.cargo.length) ∨ (k.own = true ∧ (k.cargo.length : Int) ≠ k.h.bytes) ∨ (k.own = true ∧ 0 < k.syms.length) then 4
  else if 60 < k.syms.length ∨ 40 < k.took.length then 2
  else if symsErr k.h [] k.syms ≠ 0 then symsErr k.h [] k.syms
  else sharesCheck k me
/-- Stands one head ahead of another one? -/
def aheadB (a b : Hd) : Bool := decide (a.frm < b.frm) || (decide (a.frm = b.frm) && decide (a.seq < b.seq))
def keepsErr (me time seq : Int) : Option Hd → List Kp → Int
  | _, [] => 0
  | prev, k :: l => if keptCheck k me time ≠ 0 then keptCheck k me time else if k.own = true ∧ seq ≤ k.h.seq then 4 else if prev.any (fun q => !aheadB q k.h) then 6 else keepsErr me time seq (some k.h) l
/-- What keep.Check answers. -/
def placeCheck (p : Pc) : Int :=
  if p.me < 0 ∨ 4 ≤ p.me ∨ p.time < 0 ∨ 1000000 < p.time ∨ p.seq < 0 ∨ 50 < p.seq then 3
  else if 12 < p.keep.length then 2
  else keepsErr p.me p.time p.seq none p.keep
/-- Where a bundle is. -/
def findAt (frm seq : Int) (l : List Kp) : Option Nat := l.findIdx? fun k => decide (k.h.frm = frm) && decide (k.h.seq = seq)
def findF (l : List Kp) (frm seq : Int) : Int := match findAt frm seq l with
  | some i => (i : Int)
  | none => -1
/-- Where a bundle belongs. -/
def placeAt (l : List Kp) (h : Hd) : Nat := (l.takeWhile fun k => aheadB k.h h).length
def insKp (l : List Kp) (k : Kp) : List Kp := l.take (placeAt l k.h) ++ k :: l.drop (placeAt l k.h)
def Kp.fresh (h : Hd) : Kp := ⟨h, false, [], [], 0, 0, 0, 0, [], false, false⟩
def Kp.sent (r : Rc) : Kp := ⟨r.h, true, r.cargo, [], r.n, 0, 0, 0, [], false, false⟩
/-- Nothing of it is needed any more. -/
def Kp.over (k : Kp) : Kp := { k with syms := [], shares := 0, giving := 0, towards := 0 }
/-- What a record makes of a bundle at a place. -/
def keepsF (k : Kp) (r : Rc) : Kp × Int :=
  if k.own = true then (k, 5) else if k.delivered = true ∨ k.purged = true then (k, 7) else if k.syms.any (fun s => decide (s.id = r.s.id)) then (k, 6) else if k.syms.length = 60 then (k, 2)
  else ({ k with syms := k.syms ++ [r.s] }, 0)
def deliverF (me : Int) (k : Kp) (r : Rc) : Kp × Int :=
  if k.h.to ≠ me then (k, 5) else if k.delivered = true ∨ k.purged = true then (k, 7)
  else if (decodeF k.h.bytes k.h.block k.syms).2 ≠ 0 then (k, (decodeF k.h.bytes k.h.block k.syms).2) else if (decodeF k.h.bytes k.h.block k.syms).1 ≠ r.cargo then (k, 9)
  else ({ k.over with delivered := true }, 0)
def purgeF (k : Kp) : Kp × Int := if k.delivered = true ∨ k.purged = true then (k, 7) else ({ k.over with purged := true }, 0)
def giveF (me : Int) (k : Kp) (r : Rc) : Kp × Int :=
  if r.place = me then (k, 5) else if 0 < k.giving ∨ r.try_ ≠ k.try_ + 1 then (k, 7) else if k.shares < 2 ∨ r.n ≠ k.shares / 2 then (k, 3)
  else ({ k with shares := k.shares - r.n, giving := r.n, towards := r.place, try_ := r.try_ }, 0)
def givenF (k : Kp) (r : Rc) : Kp × Int := if k.giving = 0 ∨ r.try_ ≠ k.try_ then (k, 7) else ({ k with giving := 0, towards := 0 }, 0)
def takeF (k : Kp) (r : Rc) : Kp × Int :=
  if r.try_ < 1 ∨ r.n < 1 ∨ 64 - k.shares < r.n then (k, 3) else if k.took.any (fun t => decide (t = ⟨r.place, r.try_⟩)) then (k, 6) else if k.took.length = 40 then (k, 2)
  else ({ k with took := k.took ++ [⟨r.place, r.try_⟩], shares := k.shares + r.n }, 0)
def shareF (me : Int) (k : Kp) (r : Rc) : Kp × Int :=
  if k.delivered = true ∨ k.purged = true then (k, 7) else if r.kind = 4 then giveF me k r else if r.kind = 5 then givenF k r else takeF k r
def elemF (me : Int) (k : Kp) (r : Rc) : Kp × Int :=
  if r.kind = 2 then keepsF k r else if r.kind = 3 then deliverF me k r else if r.kind = 7 then purgeF k else shareF me k r
def sendF (p : Pc) (r : Rc) : Pc × Int :=
  if r.h.frm ≠ p.me then (p, 5) else if r.h.seq ≠ p.seq ∨ r.h.till ≤ p.time then (p, 7) else if r.n < 1 ∨ 64 < r.n then (p, 3) else if p.keep.length = 12 then (p, 2)
  else ({ p with keep := insKp p.keep (Kp.sent r), seq := p.seq + 1 }, 0)
def tickF (p : Pc) (n : Int) : Pc × Int := if n ≤ p.time then (p, 7) else ({ p with time := n, keep := p.keep.filter fun k => decide (n < k.h.till) }, 0)
/-- The bundle of a head: where it is, or would come; what is there. -/
def bundleF (p : Pc) (h : Hd) : (List Kp × Nat × Kp) × Int :=
  if h.till ≤ p.time then ((p.keep, 0, Kp.fresh h), 7)
  else match findAt h.frm h.seq p.keep with
  | some i => if ((p.keep[i]?).getD (Kp.fresh h)).h ≠ h then ((p.keep, 0, Kp.fresh h), 4) else ((p.keep, i, (p.keep[i]?).getD (Kp.fresh h)), 0)
  | none => if h.frm = p.me then ((p.keep, 0, Kp.fresh h), 5) else if p.keep.length = 12 then ((p.keep, 0, Kp.fresh h), 2) else ((insKp p.keep (Kp.fresh h), placeAt p.keep h, Kp.fresh h), 0)
/-- What a record makes of a place; where it is refused the place is as it was. -/
def stepF (p : Pc) (r : Rc) : Pc × Int :=
  if r.kind = 1 then sendF p r else if r.kind = 8 then tickF p r.n
  else if (r.kind = 3 ∨ r.kind = 4 ∨ r.kind = 5) ∧ findAt r.h.frm r.h.seq p.keep = none then (p, 5)
  else if (bundleF p r.h).2 ≠ 0 then (p, (bundleF p r.h).2)
  else if (elemF p.me (bundleF p r.h).1.2.2 r).2 ≠ 0 then (p, (elemF p.me (bundleF p r.h).1.2.2 r).2)
  else ({ p with keep := (bundleF p r.h).1.1.set (bundleF p r.h).1.2.1 (elemF p.me (bundleF p r.h).1.2.2 r).1 }, 0)
/-- What keep.Next answers. -/
def nextF (p : Pc) (r : Rc) : Pc × Int :=
  if placeCheck p ≠ 0 then (Pc.zero, placeCheck p) else if recCheck r ≠ 0 then (Pc.zero, recCheck r)
  else if (stepF p r).2 ≠ 0 then (Pc.zero, (stepF p r).2) else ((stepF p r).1, 0)
def newF (me : Int) : Pc × Int := if placeCheck ⟨me, [], 0, 0⟩ ≠ 0 then (Pc.zero, placeCheck ⟨me, [], 0, 0⟩) else (⟨me, [], 0, 0⟩, 0)
def replayL (p : Pc) : List Rc → Pc × Int
  | [] => (p, 0)
  | r :: l => if (nextF p r).2 ≠ 0 then (Pc.zero, (nextF p r).2) else replayL (nextF p r).1 l
/-- What keep.Replay answers. -/
def replayF (me : Int) (l : List Rc) : Pc × Int :=
  if (newF me).2 ≠ 0 then (Pc.zero, (newF me).2) else if 200 < l.length then (Pc.zero, 2) else replayL (newF me).1 l
end Go.Proofs.YtmiaplgfbphfmaaGreatDoor
namespace Go.Proofs.YtmiaplgfbphfmaaGreatDoor

theorem ahead_trans {a b c : Hd} (h : aheadB a b = true) (k : aheadB b c = true) : aheadB a c = true := by
  simp only [aheadB, Bool.or_eq_true, Bool.and_eq_true, decide_eq_true_eq] at h k ⊢; omega
theorem ahead_ne {a b : Hd} (h : aheadB a b = true) : ¬ (a.frm = b.frm ∧ a.seq = b.seq) := by
  simp only [aheadB, Bool.or_eq_true, Bool.and_eq_true, decide_eq_true_eq] at h; omega
theorem ahead_total {a b : Hd} (h : ¬ (a.frm = b.frm ∧ a.seq = b.seq)) (k : aheadB a b = false) : aheadB b a = true := by
  simp only [aheadB, Bool.or_eq_true, Bool.and_eq_true, decide_eq_true_eq, Bool.or_eq_false_iff, Bool.and_eq_false_iff, decide_eq_false_iff_not] at k ⊢; omega
/-- Rising. -/
def Up (l : List Kp) : Prop := l.Pairwise fun a b => aheadB a.h b.h = true
theorem keepsErr_iff {me time seq : Int} : ∀ {l : List Kp} {prev : Option Hd}, keepsErr me time seq prev l = 0 ↔ (∀ k ∈ l, keptCheck k me time = 0 ∧ (k.own = true → k.h.seq < seq)) ∧ (∀ q, prev = some q → ∀ k ∈ l, aheadB q k.h = true) ∧ Up l
  | [], prev => by simp [keepsErr, Up]
  | k :: l, prev => by
    rw [keepsErr]
    constructor
    · intro h
      split at h
      · rename_i h1; exact absurd h h1
      · split at h
        · cases h
        · split at h
          · cases h
          · rename_i h1 h2 h3
            obtain ⟨h4, h5, h6⟩ := keepsErr_iff.1 h
            have hq : ∀ q, prev = some q → aheadB q k.h = true := by
              rintro q rfl
              simpa using h3
            refine ⟨fun x hx => ?_, fun q e x hx => ?_, ?_⟩
            · rcases List.mem_cons.1 hx with rfl | hx
              · exact ⟨by simpa using h1, fun ho => by simp only [ho, true_and] at h2; omega⟩
              · exact h4 x hx
            · rcases List.mem_cons.1 hx with rfl | hx
              · exact hq q e
              · exact ahead_trans (hq q e) (h5 _ rfl x hx)
            · exact List.pairwise_cons.2 ⟨fun x hx => h5 _ rfl x hx, h6⟩
    · rintro ⟨h1, h2, h3⟩
      obtain ⟨h4, h5⟩ := List.pairwise_cons.1 h3
      obtain ⟨h6, h7⟩ := h1 k List.mem_cons_self
      rw [if_neg (by simp [h6]), if_neg (by rintro ⟨ho, hs⟩; have := h7 ho; omega), if_neg]
      · exact keepsErr_iff.2 ⟨fun x hx => h1 x (List.mem_cons_of_mem _ hx), fun q e x hx => by injection e with e; subst e; exact h4 x hx, h5⟩
      · cases prev with
        | none => simp
        | some q => simp [h2 q rfl k List.mem_cons_self]
/-- A right place. -/
structure PcOk (p : Pc) : Prop where
  me : 0 ≤ p.me ∧ p.me < 4
  time : 0 ≤ p.time ∧ p.time ≤ 1000000
  seq : 0 ≤ p.seq ∧ p.seq ≤ 50
  len : p.keep.length ≤ 12
  kept : ∀ k ∈ p.keep, keptCheck k p.me p.time = 0
  own : ∀ k ∈ p.keep, k.own = true → k.h.seq < p.seq
  up : Up p.keep
theorem placeCheck_iff {p : Pc} : placeCheck p = 0 ↔ PcOk p := by
  unfold placeCheck
  constructor
  · intro h
    split at h
    · cases h
    · split at h
      · cases h
      · rename_i h1 h2
        obtain ⟨h3, _, h4⟩ := keepsErr_iff.1 h
        exact ⟨by omega, by omega, by omega, by omega, fun k hk => (h3 k hk).1, fun k hk => (h3 k hk).2, h4⟩
  · rintro ⟨h1, h2, h3, h4, h5, h6, h7⟩
    rw [if_neg (by omega), if_neg (by omega)]
    exact keepsErr_iff.2 ⟨fun k hk => ⟨h5 k hk, h6 k hk⟩, fun q e => by (cases e), h7⟩

theorem symsErr_iff {h : Hd} : ∀ {l seen : List Sm}, symsErr h seen l = 0 ↔ (∀ s ∈ l, codeCheck h.bytes h.block s.id s.data.length = 0) ∧ (∀ s ∈ l, ∀ o ∈ seen, o.id ≠ s.id) ∧ l.Pairwise fun a b => a.id ≠ b.id
  | [], seen => by simp [symsErr]
  | s :: l, seen => by
    rw [symsErr]
    constructor
    · intro e
      split at e
      · rename_i h1; exact absurd e h1
      · split at e
        · cases e
        · rename_i h1 h2
          obtain ⟨h3, h4, h5⟩ := symsErr_iff.1 e
          simp only [List.any_eq_true, decide_eq_true_eq, not_exists, not_and] at h2
          refine ⟨fun x hx => ?_, fun x hx o ho => ?_, List.pairwise_cons.2 ⟨fun x hx => h4 x hx s (by simp), h5⟩⟩
          · rcases List.mem_cons.1 hx with rfl | hx
            · simpa using h1
            · exact h3 x hx
          · rcases List.mem_cons.1 hx with rfl | hx
            · exact h2 o ho
            · exact h4 x hx o (List.mem_append_left _ ho)
    · rintro ⟨h1, h2, h3⟩
      obtain ⟨h4, h5⟩ := List.pairwise_cons.1 h3
      rw [if_neg (by simp [h1 s List.mem_cons_self]), if_neg]
      · refine symsErr_iff.2 ⟨fun x hx => h1 x (List.mem_cons_of_mem _ hx), fun x hx o ho => ?_, h5⟩
        rcases List.mem_append.1 ho with ho | ho
        · exact h2 x (List.mem_cons_of_mem _ hx) o ho
        · obtain rfl := List.mem_singleton.1 ho
          exact h4 x hx
      · simp only [List.any_eq_true, decide_eq_true_eq, not_exists, not_and]
        exact fun o ho => h2 s List.mem_cons_self o ho
theorem tookErr_iff : ∀ {l seen : List Tk}, tookErr seen l = 0 ↔ (∀ t ∈ l, 0 ≤ t.place ∧ t.place < 4 ∧ 1 ≤ t.try_ ∧ t.try_ ≤ 9999) ∧ (∀ t ∈ l, ∀ o ∈ seen, o ≠ t) ∧ l.Pairwise fun a b => a ≠ b
  | [], seen => by simp [tookErr]
  | t :: l, seen => by
    rw [tookErr]
    constructor
    · intro e
      split at e
      · cases e
      · split at e
        · cases e
        · rename_i h1 h2
          obtain ⟨h3, h4, h5⟩ := tookErr_iff.1 e
          simp only [List.any_eq_true, decide_eq_true_eq, not_exists, not_and] at h2
          refine ⟨fun x hx => ?_, fun x hx o ho => ?_, List.pairwise_cons.2 ⟨fun x hx => h4 x hx t (by simp), h5⟩⟩
          · rcases List.mem_cons.1 hx with rfl | hx
            · omega
            · exact h3 x hx
          · rcases List.mem_cons.1 hx with rfl | hx
            · exact h2 o ho
            · exact h4 x hx o (List.mem_append_left _ ho)
    · rintro ⟨h1, h2, h3⟩
      obtain ⟨h4, h5⟩ := List.pairwise_cons.1 h3
      rw [if_neg (by have := h1 t List.mem_cons_self; omega), if_neg]
      · refine tookErr_iff.2 ⟨fun x hx => h1 x (List.mem_cons_of_mem _ hx), fun x hx o ho => ?_, h5⟩
        rcases List.mem_append.1 ho with ho | ho
        · exact h2 x (List.mem_cons_of_mem _ hx) o ho
        · obtain rfl := List.mem_singleton.1 ho
          exact h4 x hx
      · simp only [List.any_eq_true, decide_eq_true_eq, not_exists, not_and]
        exact fun o ho => h2 t List.mem_cons_self o ho
/-- A right bundle at a place. -/
structure KpOk (k : Kp) (me time : Int) : Prop where
  head : hdCheck k.h = 0
  till : time < k.h.till
  own : k.own = decide (k.h.frm = me)
  cargo : k.own = decide (0 < k.cargo.length)
  size : k.own = true → (k.cargo.length : Int) = k.h.bytes
  nosym : k.own = true → k.syms = []
  many : k.syms.length ≤ 60 ∧ k.took.length ≤ 40
  syms : ∀ s ∈ k.syms, codeCheck k.h.bytes k.h.block s.id s.data.length = 0
  apart : k.syms.Pairwise fun a b => a.id ≠ b.id
  shares : 0 ≤ k.shares ∧ k.shares ≤ 64
  giving : 0 ≤ k.giving ∧ k.giving ≤ 64
  towards : 0 ≤ k.towards ∧ k.towards < 4
  try_ : 0 ≤ k.try_ ∧ k.try_ ≤ 9999
  none_ : k.giving = 0 → k.towards = 0
  some_ : 0 < k.giving → k.towards ≠ me ∧ k.try_ ≠ 0
  took : ∀ t ∈ k.took, 0 ≤ t.place ∧ t.place < 4 ∧ 1 ≤ t.try_ ∧ t.try_ ≤ 9999
  tooks : k.took.Pairwise fun a b => a ≠ b
  deliv : k.delivered = true → k.h.to = me ∧ k.purged = false
  ended : (k.delivered = true ∨ k.purged = true) → k.syms = [] ∧ k.shares = 0 ∧ k.giving = 0
theorem keptCheck_iff {k : Kp} {me time : Int} : keptCheck k me time = 0 ↔ KpOk k me time := by
  unfold keptCheck sharesCheck
  constructor
  · intro e
    split at e
    · rename_i h; exact absurd e h
    split at e
    · cases e
    split at e
    · cases e
    split at e
    · cases e
    split at e
    · rename_i h; exact absurd e h
    split at e
    · cases e
    split at e
    · cases e
    split at e
    · rename_i h; exact absurd e h
    split at e
    · cases e
    rename_i h1 h2 h3 h4 h5 h6 h7 h8 h9
    simp only [ne_eq, Decidable.not_not, not_or, not_and] at h1 h3 h5 h8 h9
    obtain ⟨s1, s2, s3⟩ := symsErr_iff.1 h5
    obtain ⟨t1, t2, t3⟩ := tookErr_iff.1 h8
    obtain ⟨o1, o2, o3, o4⟩ := h3
    refine ⟨h1, by omega, o1, o2, o3, fun ho => List.length_eq_zero_iff.1 (by have := o4 ho; omega), by omega, s1, s3, by omega, by omega, by omega, by omega, by omega, by omega, t1, t3, fun hd => ⟨(h9.1 hd).1, by simpa using (h9.1 hd).2⟩, fun hd => ?_⟩
    have := h9.2 hd
    exact ⟨List.length_eq_zero_iff.1 (by omega), by omega, by omega⟩
  · rintro ⟨h1, h2, h3, h4, h5, h6, h7, h8, h9, h10, h11, h12, h13, h14, h15, h16, h17, h18, h19⟩
    have e1 : symsErr k.h [] k.syms = 0 := symsErr_iff.2 ⟨h8, fun _ _ _ h => by simp at h, h9⟩
    have e2 : tookErr [] k.took = 0 := tookErr_iff.2 ⟨h16, fun _ _ _ h => by simp at h, h17⟩
    have hz : k.own = true → k.syms.length = 0 := fun ho => by rw [h6 ho]; rfl
    rw [if_neg (by simp [h1]), if_neg (by omega), if_neg, if_neg (by omega), if_neg (by simp [e1]), if_neg (by omega), if_neg (by omega), if_neg (by simp [e2]), if_neg]
    · rintro (⟨hd, hx⟩ | ⟨hd, hx⟩)
      · obtain ⟨a, b⟩ := h18 hd
        rcases hx with hx | hx
        · exact hx a
        · rw [b] at hx; cases hx
      · obtain ⟨a, b, c⟩ := h19 hd
        rw [a] at hx
        simp at hx
        omega
    · rintro (h | h | ⟨ho, h⟩ | ⟨ho, h⟩)
      · exact h h3
      · exact h h4
      · exact h (h5 ho)
      · have := hz ho; omega

theorem Up.inj {l : List Kp} (h : Up l) {i j : Nat} {a b : Kp} (hi : l[i]? = some a) (hj : l[j]? = some b) (e : a.h.frm = b.h.frm ∧ a.h.seq = b.h.seq) : i = j := by
  have h' := List.pairwise_iff_getElem.1 h
  obtain ⟨li, ei⟩ := List.getElem?_eq_some_iff.1 hi
  obtain ⟨lj, ej⟩ := List.getElem?_eq_some_iff.1 hj
  rcases Nat.lt_trichotomy i j with hlt | rfl | hlt
  · have := h' i j li lj hlt
    rw [ei, ej] at this
    exact absurd e (ahead_ne this)
  · rfl
  · have := h' j i lj li hlt
    rw [ei, ej] at this
    exact absurd ⟨e.1.symm, e.2.symm⟩ (ahead_ne this)
theorem findAt_some {frm seq : Int} {l : List Kp} {i : Nat} (h : findAt frm seq l = some i) : ∃ k, l[i]? = some k ∧ k.h.frm = frm ∧ k.h.seq = seq := by
  unfold findAt at h
  obtain ⟨hi, hp, _⟩ := List.findIdx?_eq_some_iff_getElem.1 h
  simp only [Bool.and_eq_true, decide_eq_true_eq] at hp
  exact ⟨l[i], List.getElem?_eq_getElem hi, hp⟩
theorem findAt_none {frm seq : Int} {l : List Kp} (h : findAt frm seq l = none) : ∀ k ∈ l, ¬ (k.h.frm = frm ∧ k.h.seq = seq) := by
  unfold findAt at h
  intro k hk e
  have := List.findIdx?_eq_none_iff.1 h k hk
  simp [e.1, e.2] at this
theorem findAt_mem {frm seq : Int} {l : List Kp} (h : Up l) {i : Nat} {k : Kp} (hi : l[i]? = some k) (e : k.h.frm = frm ∧ k.h.seq = seq) : findAt frm seq l = some i := by
  cases hf : findAt frm seq l with
  | none => exact absurd e (findAt_none hf k (List.mem_of_getElem? hi))
  | some j =>
    obtain ⟨k', hk', e'⟩ := findAt_some hf
    rw [h.inj hi hk' ⟨e.1.trans e'.1.symm, e.2.trans e'.2.symm⟩]

theorem placeAt_le (l : List Kp) (h : Hd) : placeAt l h ≤ l.length := by unfold placeAt; exact (List.takeWhile_sublist _).length_le
theorem take_placeAt (l : List Kp) (h : Hd) : l.take (placeAt l h) = l.takeWhile fun k => aheadB k.h h := by
  unfold placeAt
  exact (List.prefix_iff_eq_take.1 (List.takeWhile_prefix _)).symm
theorem drop_placeAt (l : List Kp) (h : Hd) : l.drop (placeAt l h) = l.dropWhile fun k => aheadB k.h h := by
  unfold placeAt
  induction l with
  | nil => rfl
  | cons k l ih =>
    rw [List.takeWhile_cons, List.dropWhile_cons]
    split
    · simpa using ih
    · rfl
theorem mem_insKp {l : List Kp} {k x : Kp} : x ∈ insKp l k ↔ x = k ∨ x ∈ l := by
  unfold insKp
  rw [List.mem_append, List.mem_cons]
  conv => rhs; rw [← List.take_append_drop (placeAt l k.h) l, List.mem_append]
  constructor
  · rintro (h | h | h)
    · exact .inr (.inl h)
    · exact .inl h
    · exact .inr (.inr h)
  · rintro (h | h | h)
    · exact .inr (.inl h)
    · exact .inl h
    · exact .inr (.inr h)
theorem length_insKp (l : List Kp) (k : Kp) : (insKp l k).length = l.length + 1 := by
  have := placeAt_le l k.h
  unfold insKp
  rw [List.length_append, List.length_cons, List.length_take, List.length_drop]; omega
theorem insKp_at (l : List Kp) (k : Kp) : (insKp l k)[placeAt l k.h]? = some k := by
  have := placeAt_le l k.h
  unfold insKp
  rw [List.getElem?_append_right (by rw [List.length_take]; omega), List.length_take, Nat.min_eq_left this, Nat.sub_self]; rfl
theorem insKp_up {l : List Kp} (h : Up l) {k : Kp} (hk : ∀ x ∈ l, ¬ (x.h.frm = k.h.frm ∧ x.h.seq = k.h.seq)) : Up (insKp l k) := by
  unfold insKp
  rw [take_placeAt, drop_placeAt]
  have h0 := h
  unfold Up at h ⊢
  rw [← List.takeWhile_append_dropWhile (p := fun x => aheadB x.h k.h) (l := l)] at h
  obtain ⟨h1, h2, h3⟩ := List.pairwise_append.1 h
  have ht : ∀ x ∈ l.takeWhile (fun x => aheadB x.h k.h), aheadB x.h k.h = true := fun x hx => List.all_eq_true.1 (List.all_takeWhile (p := fun x : Kp => aheadB x.h k.h) (l := l)) x hx
  have hd : ∀ x ∈ l.dropWhile (fun x => aheadB x.h k.h), aheadB k.h x.h = true := by
    intro x hx
    cases hl : l.dropWhile (fun x => aheadB x.h k.h) with
    | nil => rw [hl] at hx; simp at hx
    | cons y ys =>
      have hy : aheadB y.h k.h = false := by
        have := List.head?_dropWhile_not (fun x : Kp => aheadB x.h k.h) l
        rw [hl] at this
        simpa using this
      have hym : y ∈ l := (List.dropWhile_sublist _).subset (by rw [hl]; exact List.mem_cons_self)
      have hy2 := ahead_total (hk y hym) hy
      rw [hl] at hx h2
      rcases List.mem_cons.1 hx with rfl | hx
      · exact hy2
      · exact ahead_trans hy2 ((List.pairwise_cons.1 h2).1 x hx)
  refine List.pairwise_append.2 ⟨h1, List.pairwise_cons.2 ⟨hd, h2⟩, fun a ha b hb => ?_⟩
  rcases List.mem_cons.1 hb with rfl | hb
  · exact ht a ha
  · exact h3 a ha b hb
theorem set_up {l : List Kp} (h : Up l) {i : Nat} {k k' : Kp} (hi : l[i]? = some k) (e : k'.h = k.h) : Up (l.set i k') := by
  obtain ⟨li, ei⟩ := List.getElem?_eq_some_iff.1 hi
  refine List.pairwise_iff_getElem.2 fun a b ha hb hab => ?_
  rw [List.length_set] at ha hb
  have h' := List.pairwise_iff_getElem.1 h a b ha hb hab
  rw [List.getElem_set, List.getElem_set]
  split
  · rename_i e1
    subst e1
    rw [if_neg (by omega), e, ← ei]; exact h'
  · split
    · rename_i e1
      subst e1
      rw [e, ← ei]; exact h'
    · exact h'
theorem fresh_ok {h : Hd} {me time : Int} (hh : hdCheck h = 0) (ht : time < h.till) (hf : h.frm ≠ me) : KpOk (Kp.fresh h) me time := by
  refine ⟨hh, ht, by simp [Kp.fresh, hf], by simp [Kp.fresh], ?_, ?_, ?_, ?_, ?_, ?_, ?_, ?_, ?_, ?_, ?_, ?_, ?_, ?_, ?_⟩ <;> simp [Kp.fresh]
/-- What a record makes of a bundle is a bundle, of the same head. -/
theorem elemF_ok {me time : Int} {k k' : Kp} {r : Rc} (hk : KpOk k me time) (hr : RcOk r) (hh : k.h = r.h) (e : elemF me k r = (k', 0)) : KpOk k' me time ∧ k'.h = k.h := by
  unfold elemF at e
  split at e
  · rename_i h2
    unfold keepsF at e
    repeat' split at e
    all_goals try (simp only [Prod.mk.injEq] at e; exact absurd e.2 (by decide))
    rename_i a1 a2 a3 a4
    simp only [Prod.mk.injEq, and_true] at e
    subst e
    simp only [List.any_eq_true, decide_eq_true_eq, not_exists, not_and] at a3
    refine ⟨⟨hk.head, hk.till, hk.own, hk.cargo, hk.size, fun ho => absurd ho a1, ?_, fun s hs => ?_, ?_, hk.shares, hk.giving, hk.towards, hk.try_, hk.none_, hk.some_, hk.took, hk.tooks, hk.deliv, fun hd => absurd hd a2⟩, rfl⟩
    · have := hk.many; simp only [List.length_append, List.length_singleton]; omega
    · rcases List.mem_append.1 hs with hs | hs
      · exact hk.syms s hs
      · obtain rfl := List.mem_singleton.1 hs
        have := hr.sym h2
        rw [← hh] at this; exact this
    · refine List.pairwise_append.2 ⟨hk.apart, List.pairwise_singleton _ _, fun a ha b hb => ?_⟩
      obtain rfl := List.mem_singleton.1 hb
      exact a3 a ha
  split at e
  · rename_i h2 h3
    unfold deliverF at e
    repeat' split at e
    all_goals try (simp only [Prod.mk.injEq] at e; exact absurd e.2 (by first | decide | assumption))
    rename_i a1 a2 a3 a4
    simp only [Prod.mk.injEq, and_true] at e
    subst e
    simp only [ne_eq, Decidable.not_not, not_or, Bool.not_eq_true] at a1 a2
    refine ⟨⟨hk.head, hk.till, hk.own, hk.cargo, hk.size, fun _ => rfl, ⟨by simp [Kp.over], hk.many.2⟩, by simp [Kp.over], by simp [Kp.over], by simp [Kp.over], by simp [Kp.over], by simp [Kp.over], hk.try_, by simp [Kp.over], by simp [Kp.over], hk.took, hk.tooks, fun _ => ⟨a1, a2.2⟩, fun _ => by simp [Kp.over]⟩, rfl⟩
  split at e
  · unfold purgeF at e
    split at e
    · simp only [Prod.mk.injEq] at e; exact absurd e.2 (by decide)
    rename_i a2
    simp only [Prod.mk.injEq, and_true] at e
    subst e
    simp only [not_or, Bool.not_eq_true] at a2
    exact ⟨⟨hk.head, hk.till, hk.own, hk.cargo, hk.size, fun _ => rfl, ⟨by simp [Kp.over], hk.many.2⟩, by simp [Kp.over], by simp [Kp.over], by simp [Kp.over], by simp [Kp.over], by simp [Kp.over], hk.try_, by simp [Kp.over], by simp [Kp.over], hk.took, hk.tooks, fun hd => by simp [Kp.over, a2.1] at hd, fun _ => by simp [Kp.over]⟩, rfl⟩
  rename_i h2 h3 h7
  unfold shareF at e
  split at e
  · simp only [Prod.mk.injEq] at e; exact absurd e.2 (by decide)
  rename_i a2
  split at e
  · unfold giveF at e
    repeat' split at e
    all_goals try (simp only [Prod.mk.injEq] at e; exact absurd e.2 (by decide))
    rename_i a3 a4 a5 a6
    simp only [Prod.mk.injEq, and_true] at e
    subst e
    have h1 := hk.shares
    have h4 := hk.try_
    have h5 := hr.try_
    have h6 := hr.place
    have h8 : k.shares / 2 * 2 ≤ k.shares := Int.ediv_mul_le _ (by decide)
    exact ⟨⟨hk.head, hk.till, hk.own, hk.cargo, hk.size, hk.nosym, hk.many, hk.syms, hk.apart, by simp only []; omega, by simp only []; omega, by simp only []; omega, by simp only []; omega, by simp only []; omega, by simp only []; intro _; exact ⟨a4, by omega⟩, hk.took, hk.tooks, hk.deliv, fun hd => absurd hd a2⟩, rfl⟩
  split at e
  · unfold givenF at e
    split at e
    · simp only [Prod.mk.injEq] at e; exact absurd e.2 (by decide)
    simp only [Prod.mk.injEq, and_true] at e
    subst e
    exact ⟨⟨hk.head, hk.till, hk.own, hk.cargo, hk.size, hk.nosym, hk.many, hk.syms, hk.apart, hk.shares, by simp, by simp, hk.try_, by simp, by simp, hk.took, hk.tooks, hk.deliv, fun hd => absurd hd a2⟩, rfl⟩
  · unfold takeF at e
    repeat' split at e
    all_goals try (simp only [Prod.mk.injEq] at e; exact absurd e.2 (by decide))
    rename_i a3 a4 a5 a6 a7
    simp only [Prod.mk.injEq, and_true] at e
    subst e
    simp only [List.any_eq_true, decide_eq_true_eq, not_exists, not_and] at a6
    have h1 := hk.shares
    have h5 := hr.try_
    have h6 := hr.place
    have h8 := hk.many
    refine ⟨⟨hk.head, hk.till, hk.own, hk.cargo, hk.size, hk.nosym, ?_, hk.syms, hk.apart, by simp only []; omega, hk.giving, hk.towards, hk.try_, hk.none_, hk.some_, fun t ht => ?_, ?_, hk.deliv, fun hd => absurd hd a2⟩, rfl⟩
    · simp only [List.length_append, List.length_singleton]; omega
    · rcases List.mem_append.1 ht with ht | ht
      · exact hk.took t ht
      · obtain rfl := List.mem_singleton.1 ht
        simp only []; omega
    · refine List.pairwise_append.2 ⟨hk.tooks, List.pairwise_singleton _ _, fun a ha b hb => ?_⟩
      obtain rfl := List.mem_singleton.1 hb
      exact a6 a ha
end Go.Proofs.YtmiaplgfbphfmaaGreatDoor
namespace Go.Proofs.YtmiaplgfbphfmaaGreatDoor

theorem nextF_ok {p q : Pc} {r : Rc} (h : nextF p r = (q, 0)) : PcOk p ∧ recCheck r = 0 ∧ stepF p r = (q, 0) := by
  unfold nextF at h
  split at h
  · rename_i h1; simp only [Prod.mk.injEq] at h; exact absurd h.2 h1
  split at h
  · rename_i h1; simp only [Prod.mk.injEq] at h; exact absurd h.2 h1
  split at h
  · rename_i h1; simp only [Prod.mk.injEq] at h; exact absurd h.2 h1
  rename_i h1 h2 h3
  simp only [ne_eq, Decidable.not_not] at h1 h2 h3
  exact ⟨placeCheck_iff.1 h1, h2, Prod.ext (Prod.mk.inj h).1 h3⟩
/-- Where a bundle is, or comes. -/
structure BdOk (p : Pc) (h : Hd) (l : List Kp) (i : Nat) (k : Kp) : Prop where
  till : p.time < h.till
  up : Up l
  at_ : l[i]? = some k
  head : k.h = h
  ok : KpOk k p.me p.time
  len : l.length ≤ 12
  mem : ∀ x ∈ l, x = k ∨ x ∈ p.keep
  sub : ∀ x ∈ p.keep, x ∈ l
  how : (findAt h.frm h.seq p.keep = some i ∧ l = p.keep) ∨ (findAt h.frm h.seq p.keep = none ∧ l = insKp p.keep (Kp.fresh h) ∧ i = placeAt p.keep h ∧ k = Kp.fresh h ∧ h.frm ≠ p.me)
theorem bundleF_ok {p : Pc} {h : Hd} {l : List Kp} {i : Nat} {k : Kp} (hp : PcOk p) (hh : hdCheck h = 0) (e : bundleF p h = ((l, i, k), 0)) : BdOk p h l i k := by
  unfold bundleF at e
  split at e
  · simp only [Prod.mk.injEq] at e; exact absurd e.2 (by decide)
  rename_i h1
  split at e
  · rename_i j hj
    obtain ⟨x, hx, hf⟩ := findAt_some hj
    split at e
    · simp only [Prod.mk.injEq] at e; exact absurd e.2 (by decide)
    rename_i h2
    simp only [Prod.mk.injEq, and_true] at e
    obtain ⟨rfl, rfl, rfl⟩ := e
    rw [hx] at h2 ⊢
    simp only [Option.getD_some, ne_eq, Decidable.not_not] at h2 ⊢
    exact ⟨by omega, hp.up, hx, h2, keptCheck_iff.1 (hp.kept x (List.mem_of_getElem? hx)), hp.len, fun y hy => .inr hy, fun _ hx => hx, .inl ⟨hj, rfl⟩⟩
  · rename_i hn
    split at e
    · simp only [Prod.mk.injEq] at e; exact absurd e.2 (by decide)
    split at e
    · simp only [Prod.mk.injEq] at e; exact absurd e.2 (by decide)
    rename_i h2 h3
    simp only [Prod.mk.injEq, and_true] at e
    obtain ⟨rfl, rfl, rfl⟩ := e
    have := hp.len
    exact ⟨by omega, insKp_up hp.up (findAt_none hn), insKp_at p.keep (Kp.fresh h), rfl, fresh_ok hh (by omega) h2, by rw [length_insKp]; omega, fun y hy => mem_insKp.1 hy, fun x hx => mem_insKp.2 (.inr hx), .inr ⟨hn, rfl, rfl, rfl, h2⟩⟩
/-- How a record is taken. -/
inductive Stp (p : Pc) (r : Rc) (q : Pc) : Prop
  | send (h1 : r.kind = 1) (h2 : r.h.frm = p.me) (h3 : r.h.seq = p.seq) (h4 : p.time < r.h.till) (h5 : 1 ≤ r.n ∧ r.n ≤ 64) (h6 : p.keep.length < 12) (h7 : q = { p with keep := insKp p.keep (Kp.sent r), seq := p.seq + 1 })
  | tick (h1 : r.kind = 8) (h2 : p.time < r.n) (h3 : q = { p with time := r.n, keep := p.keep.filter fun k => decide (r.n < k.h.till) })
  | elem (h1 : r.kind ≠ 1 ∧ r.kind ≠ 8) (l : List Kp) (i : Nat) (k k' : Kp) (hb : BdOk p r.h l i k) (he : elemF p.me k r = (k', 0)) (hq : q = { p with keep := l.set i k' }) (hf : (r.kind = 3 ∨ r.kind = 4 ∨ r.kind = 5) → findAt r.h.frm r.h.seq p.keep ≠ none)
theorem stepF_ok {p q : Pc} {r : Rc} (hp : PcOk p) (hr : RcOk r) (e : stepF p r = (q, 0)) : Stp p r q := by
  have hlen := hp.len
  unfold stepF at e
  split at e
  · rename_i h1
    unfold sendF at e
    repeat' split at e
    all_goals try (simp only [Prod.mk.injEq] at e; exact absurd e.2 (by decide))
    rename_i a1 a2 a3 a4
    simp only [Prod.mk.injEq, and_true] at e
    exact .send h1 (by simpa using a1) (by omega) (by omega) (by omega) (by omega) e.symm
  split at e
  · rename_i h1
    unfold tickF at e
    split at e
    · simp only [Prod.mk.injEq] at e; exact absurd e.2 (by decide)
    rename_i a1
    simp only [Prod.mk.injEq, and_true] at e
    exact .tick h1 (by omega) e.symm
  split at e
  · simp only [Prod.mk.injEq] at e; exact absurd e.2 (by decide)
  rename_i h1 h8 h3
  split at e
  · rename_i h4; simp only [Prod.mk.injEq] at e; exact absurd e.2 h4
  split at e
  · rename_i h5; simp only [Prod.mk.injEq] at e; exact absurd e.2 h5
  rename_i h4 h5
  simp only [Prod.mk.injEq, and_true, ne_eq, Decidable.not_not] at e h4 h5
  exact .elem ⟨h1, h8⟩ _ _ _ _ (bundleF_ok hp (hr.head h8) (Prod.ext rfl h4)) (Prod.ext rfl h5) e.symm fun hk hn => h3 ⟨hk, hn⟩
theorem KpOk.later {k : Kp} {me time time' : Int} (h : KpOk k me time) (ht : time' < k.h.till) : KpOk k me time' := { h with till := ht }
theorem sent_ok {r : Rc} {me time : Int} (hr : RcOk r) (h1 : r.kind = 1) (h2 : r.h.frm = me) (h4 : time < r.h.till) (h5 : 1 ≤ r.n ∧ r.n ≤ 64) : KpOk (Kp.sent r) me time := by
  have hc := hr.cargo (.inl h1)
  have hh := hr.head (by omega)
  have hb : 1 ≤ r.h.bytes := by
    unfold hdCheck at hh
    split at hh
    · cases hh
    split at hh
    · cases hh
    exact (cutCheck_ok hh).1.1
  have hpos : 0 < r.cargo.length := by omega
  refine ⟨hh, h4, by simp [Kp.sent, h2], ?_, fun _ => hc, fun _ => rfl, by simp [Kp.sent], by simp [Kp.sent], by simp [Kp.sent], ?_, by simp [Kp.sent], by simp [Kp.sent], by simp [Kp.sent], by simp [Kp.sent], by simp [Kp.sent], by simp [Kp.sent], by simp [Kp.sent], by simp [Kp.sent], by simp [Kp.sent]⟩
  · show true = decide (0 < r.cargo.length)
    rw [decide_eq_true hpos]
  · show 0 ≤ r.n ∧ r.n ≤ 64; omega
theorem Stp.ok {p q : Pc} {r : Rc} (hp : PcOk p) (hr : RcOk r) (h : Stp p r q) : PcOk q ∧ q.me = p.me ∧ p.time ≤ q.time ∧ p.seq ≤ q.seq := by
  cases h with
  | send h1 h2 h3 h4 h5 h6 h7 =>
    subst h7
    have hh := hr.head (by omega)
    have hs : r.h.seq < 50 := by
      unfold hdCheck at hh
      split at hh
      · cases hh
      · omega
    have hps := hp.seq
    refine ⟨⟨hp.me, hp.time, by simp only []; omega, by simp only [length_insKp]; omega, fun k hk => ?_, fun k hk ho => ?_, ?_⟩, rfl, Int.le_refl _, by simp only []; omega⟩
    · rcases mem_insKp.1 hk with rfl | hk
      · exact keptCheck_iff.2 (sent_ok hr h1 h2 h4 h5)
      · exact hp.kept k hk
    · simp only []
      rcases mem_insKp.1 hk with rfl | hk
      · show r.h.seq < _; omega
      · have := hp.own k hk ho; omega
    · refine insKp_up hp.up fun x hx hx2 => ?_
      have h8 := (keptCheck_iff.1 (hp.kept x hx)).own
      have h9 : x.own = true := by rw [h8]; simpa using hx2.1.trans h2
      have := hp.own x hx h9
      have e : x.h.seq = r.h.seq := hx2.2
      omega
  | tick h1 h2 h3 =>
    subst h3
    have hn := hr.n
    have ht := hp.time
    refine ⟨⟨hp.me, by simp only []; omega, hp.seq, Nat.le_trans (List.length_filter_le _ _) hp.len, fun k hk => ?_, fun k hk ho => hp.own k (List.mem_filter.1 hk).1 ho, hp.up.sublist List.filter_sublist⟩, rfl, by simp only []; omega, Int.le_refl _⟩
    obtain ⟨a, b⟩ := List.mem_filter.1 hk
    exact keptCheck_iff.2 ((keptCheck_iff.1 (hp.kept k a)).later (by simpa using b))
  | elem h1 l i k k' hb he hq hf =>
    subst hq
    obtain ⟨ok', eh⟩ := elemF_ok hb.ok hr hb.head he
    have hmem : ∀ x ∈ l.set i k', x = k' ∨ x ∈ p.keep := fun x hx => by
      rcases List.mem_or_eq_of_mem_set hx with hx | rfl
      · obtain ⟨j, hj⟩ := List.mem_iff_getElem?.1 hx
        rcases hb.mem x hx with rfl | h2
        · rcases hb.how with ⟨_, h3⟩ | ⟨h3, h4, h5, h6, h7⟩
          · exact .inr (by rw [← h3]; exact List.mem_of_getElem? hb.at_)
          · have e := hb.up.inj hj hb.at_ ⟨rfl, rfl⟩
            subst e
            have hjl := (List.getElem?_eq_some_iff.1 hj).1
            obtain ⟨j2, hj2⟩ := List.mem_iff_getElem?.1 ‹x ∈ l.set _ k'›
            rw [List.getElem?_set] at hj2
            split at hj2
            · rename_i he2
              first
                | exact .inl (by injection hj2 with e; exact e.symm)
                | (split at hj2
                   · exact .inl (by injection hj2 with e; exact e.symm)
                   · cases hj2)
            · rename_i hne
              exact absurd (hb.up.inj hj hj2 ⟨rfl, rfl⟩) hne
        · exact .inr h2
      · exact .inl rfl
    refine ⟨⟨hp.me, hp.time, hp.seq, by simp only [List.length_set]; exact hb.len, fun x hx => ?_, fun x hx ho => ?_, set_up hb.up hb.at_ eh⟩, rfl, Int.le_refl _, Int.le_refl _⟩
    · rcases hmem x hx with rfl | hx
      · exact keptCheck_iff.2 ok'
      · exact hp.kept x hx
    · simp only []
      rcases hmem x hx with rfl | hx
      · rcases hb.how with ⟨_, h3⟩ | ⟨h3, h4, h5, h6, h7⟩
        · have h8 : k ∈ p.keep := by rw [← h3]; exact List.mem_of_getElem? hb.at_
          have h9 : k.own = x.own := by rw [hb.ok.own, ok'.own, eh]
          have := hp.own k h8 (by rw [h9]; exact ho)
          rw [eh]; exact this
        · rw [ok'.own, eh, hb.head] at ho
          exact absurd (by simpa using ho) h7
      · exact hp.own x hx ho
/-- How many shares a bundle had. -/
def wasOf (p : Pc) (h : Hd) : Int := match findAt h.frm h.seq p.keep with
  | some i => ((p.keep[i]?).getD (Kp.fresh h)).shares
  | none => 0
theorem wasOf_mem {p : Pc} (hu : Up p.keep) {y : Kp} (hy : y ∈ p.keep) : wasOf p y.h = y.shares := by
  obtain ⟨j, hj⟩ := List.mem_iff_getElem?.1 hy
  unfold wasOf
  rw [findAt_mem hu hj ⟨rfl, rfl⟩]
  simp only [hj, Option.getD_some]
theorem Stp.shares {p q : Pc} {r : Rc} (hp : PcOk p) (hr : RcOk r) (h : Stp p r q) {y : Kp} (hy : y ∈ q.keep) :
    (r.h = y.h ∧ r.kind ≠ 8 ∧ ((r.kind = 1 ∨ r.kind = 6) ∧ y.shares = wasOf p y.h + r.n ∨ r.kind = 4 ∧ y.shares = wasOf p y.h - r.n ∧ y.giving = r.n ∨ (r.kind = 3 ∨ r.kind = 7) ∧ y.shares = 0 ∨ (r.kind = 2 ∨ r.kind = 5) ∧ y.shares = wasOf p y.h)) ∨ (¬ (r.h = y.h ∧ r.kind ≠ 8) ∧ y.shares = wasOf p y.h) := by
  cases h with
  | send h1 h2 h3 h4 h5 h6 h7 =>
    subst h7
    have hno : ∀ x ∈ p.keep, ¬ (x.h.frm = r.h.frm ∧ x.h.seq = r.h.seq) := fun x hx hx2 => by
      have h9 : x.own = true := by rw [(keptCheck_iff.1 (hp.kept x hx)).own]; simpa using hx2.1.trans h2
      have := hp.own x hx h9
      omega
    rcases mem_insKp.1 hy with rfl | hy
    · refine .inl ⟨rfl, by omega, .inl ⟨.inl h1, ?_⟩⟩
      have : wasOf p r.h = 0 := by
        unfold wasOf
        cases hf : findAt r.h.frm r.h.seq p.keep with
        | none => rfl
        | some i => obtain ⟨x, hx, e⟩ := findAt_some hf; exact absurd e (hno x (List.mem_of_getElem? hx))
      show r.n = wasOf p r.h + r.n
      omega
    · refine .inr ⟨fun e => hno y hy (by rw [e.1]; exact ⟨rfl, rfl⟩), (wasOf_mem hp.up hy).symm⟩
  | tick h1 h2 h3 =>
    subst h3
    exact .inr ⟨fun e => e.2 h1, (wasOf_mem hp.up (List.mem_filter.1 hy).1).symm⟩
  | elem h1 l i k k' hb he hq hf =>
    subst hq
    obtain ⟨ok', eh⟩ := elemF_ok hb.ok hr hb.head he
    have hw : wasOf p r.h = k.shares := by
      rcases hb.how with ⟨h2, h3⟩ | ⟨h2, h3, h4, h5, h6⟩
      · unfold wasOf
        have := hb.at_
        rw [h3] at this
        rw [h2]
        simp only [this, Option.getD_some]
      · unfold wasOf
        rw [h2, h5]; rfl
    obtain ⟨j, hj⟩ := List.mem_iff_getElem?.1 hy
    rw [List.getElem?_set] at hj
    split at hj
    · rename_i hij
      split at hj
      · injection hj with hj
        subst hj
        rw [eh, hb.head]
        refine .inl ⟨rfl, h1.2, ?_⟩
        rw [hw]
        have hk := hr.kind
        unfold elemF at he
        split at he
        · rename_i h2
          unfold keepsF at he
          repeat' split at he
          all_goals try (simp only [Prod.mk.injEq] at he; exact absurd he.2 (by decide))
          simp only [Prod.mk.injEq, and_true] at he
          subst he
          exact .inr (.inr (.inr ⟨.inl h2, rfl⟩))
        split at he
        · rename_i h2 h3
          unfold deliverF at he
          repeat' split at he
          all_goals try (simp only [Prod.mk.injEq] at he; exact absurd he.2 (by first | decide | assumption))
          simp only [Prod.mk.injEq, and_true] at he
          subst he
          exact .inr (.inr (.inl ⟨.inl h3, rfl⟩))
        split at he
        · rename_i h2 h3 h7
          unfold purgeF at he
          split at he
          · simp only [Prod.mk.injEq] at he; exact absurd he.2 (by decide)
          simp only [Prod.mk.injEq, and_true] at he
          subst he
          exact .inr (.inr (.inl ⟨.inr h7, rfl⟩))
        rename_i h2 h3 h7
        unfold shareF at he
        split at he
        · simp only [Prod.mk.injEq] at he; exact absurd he.2 (by decide)
        split at he
        · rename_i h4
          unfold giveF at he
          repeat' split at he
          all_goals try (simp only [Prod.mk.injEq] at he; exact absurd he.2 (by decide))
          simp only [Prod.mk.injEq, and_true] at he
          subst he
          exact .inr (.inl ⟨h4, rfl, rfl⟩)
        split at he
        · rename_i h5
          unfold givenF at he
          split at he
          · simp only [Prod.mk.injEq] at he; exact absurd he.2 (by decide)
          simp only [Prod.mk.injEq, and_true] at he
          subst he
          exact .inr (.inr (.inr ⟨.inr h5, rfl⟩))
        · unfold takeF at he
          repeat' split at he
          all_goals try (simp only [Prod.mk.injEq] at he; exact absurd he.2 (by decide))
          simp only [Prod.mk.injEq, and_true] at he
          subst he
          exact .inl ⟨.inr (by omega), rfl⟩
      · cases hj
    · rename_i hij
      have hne : ¬ (y.h.frm = k.h.frm ∧ y.h.seq = k.h.seq) := fun e => hij (hb.up.inj hb.at_ hj ⟨e.1.symm, e.2.symm⟩)
      have hyp : y ∈ p.keep := by
        rcases hb.mem y (List.mem_of_getElem? hj) with rfl | h2
        · exact absurd ⟨rfl, rfl⟩ hne
        · exact h2
      exact .inr ⟨fun e => hne (by rw [← e.1, hb.head]; exact ⟨rfl, rfl⟩), (wasOf_mem hp.up hyp).symm⟩

/-- What is delivered, and what was. -/
structure Once (me : Int) (p : Pc) (done : Hd → Bool) : Prop where
  ok : PcOk p
  me_ : p.me = me
  old : ∀ h, done h = true → h.till ≤ p.time ∨ ∃ k ∈ p.keep, k.h = h ∧ k.delivered = true
  now : ∀ k ∈ p.keep, k.h.to = me → k.delivered = done k.h
theorem elem_deliv {me : Int} {k k' : Kp} {r : Rc} (he : elemF me k r = (k', 0)) : (r.kind ≠ 3 ∧ k'.delivered = k.delivered) ∨ (r.kind = 3 ∧ k.h.to = me ∧ k.delivered = false ∧ k'.delivered = true) := by
  unfold elemF at he
  split at he
  · rename_i h2
    unfold keepsF at he
    repeat' split at he
    all_goals try (simp only [Prod.mk.injEq] at he; exact absurd he.2 (by decide))
    simp only [Prod.mk.injEq, and_true] at he
    subst he
    exact .inl ⟨by omega, rfl⟩
  split at he
  · rename_i h2 h3
    unfold deliverF at he
    repeat' split at he
    all_goals try (simp only [Prod.mk.injEq] at he; exact absurd he.2 (by first | decide | assumption))
    rename_i a1 a2 a3 a4
    simp only [Prod.mk.injEq, and_true] at he
    subst he
    simp only [ne_eq, Decidable.not_not, not_or, Bool.not_eq_true] at a1 a2
    exact .inr ⟨h3, a1, a2.1, rfl⟩
  rename_i h2 h3
  refine .inl ⟨h3, ?_⟩
  split at he
  · unfold purgeF at he
    split at he
    · simp only [Prod.mk.injEq] at he; exact absurd he.2 (by decide)
    simp only [Prod.mk.injEq, and_true] at he
    subst he; rfl
  unfold shareF at he
  split at he
  · simp only [Prod.mk.injEq] at he; exact absurd he.2 (by decide)
  split at he
  · unfold giveF at he
    repeat' split at he
    all_goals try (simp only [Prod.mk.injEq] at he; exact absurd he.2 (by decide))
    simp only [Prod.mk.injEq, and_true] at he
    subst he; rfl
  split at he
  · unfold givenF at he
    split at he
    · simp only [Prod.mk.injEq] at he; exact absurd he.2 (by decide)
    simp only [Prod.mk.injEq, and_true] at he
    subst he; rfl
  · unfold takeF at he
    repeat' split at he
    all_goals try (simp only [Prod.mk.injEq] at he; exact absurd he.2 (by decide))
    simp only [Prod.mk.injEq, and_true] at he
    subst he; rfl
theorem Once.step {me : Int} {p q : Pc} {r : Rc} {done : Hd → Bool} (hi : Once me p done) (h : nextF p r = (q, 0)) :
    (r.kind = 3 → done r.h = false ∧ p.time < r.h.till ∧ r.h.to = me) ∧ Once me q (fun x => if x = r.h then done r.h || decide (r.kind = 3) else done x) := by
  obtain ⟨hp, hc, hs⟩ := nextF_ok h
  have hr := recCheck_ok hc
  have hst := stepF_ok hp hr hs
  obtain ⟨hq, hqm, hqt, hqs⟩ := hst.ok hp hr
  cases hst with
  | send h1 h2 h3 h4 h5 h6 h7 =>
    subst h7
    have hto : r.h.to ≠ me := by
      have hh := hr.head (by omega)
      unfold hdCheck at hh
      split at hh
      · cases hh
      split at hh
      · cases hh
      have := hi.me_
      omega
    have e3 : decide (r.kind = 3) = false := by simp [h1]
    rw [e3]
    refine ⟨fun e => by omega, hq, hi.me_, fun x hx => ?_, fun k hk hm => ?_⟩
    · have hx' : done x = true := by
        split at hx
        · rename_i e; rw [e]; simpa using hx
        · exact hx
      rcases hi.old x hx' with h8 | ⟨k, hk, h8⟩
      · exact .inl h8
      · exact .inr ⟨k, mem_insKp.2 (.inr hk), h8⟩
    · rcases mem_insKp.1 hk with rfl | hk
      · exact absurd hm hto
      · rw [hi.now k hk hm]
        split
        · rename_i e; rw [e]; simp
        · rfl
  | tick h1 h2 h3 =>
    subst h3
    have e3 : decide (r.kind = 3) = false := by simp [h1]
    rw [e3]
    refine ⟨fun e => by omega, hq, hi.me_, fun x hx => ?_, fun k hk hm => ?_⟩
    · have hx' : done x = true := by
        split at hx
        · rename_i e; rw [e]; simpa using hx
        · exact hx
      rcases hi.old x hx' with h8 | ⟨k, hk, h8, h9⟩
      · exact .inl (by simp only []; omega)
      · by_cases ht : r.n < x.till
        · exact .inr ⟨k, List.mem_filter.2 ⟨hk, by rw [h8]; simpa using ht⟩, h8, h9⟩
        · exact .inl (by simp only []; omega)
    · rw [hi.now k (List.mem_filter.1 hk).1 hm]
      split
      · rename_i e; rw [e]; simp
      · rfl
  | elem h1 l i k k' hb he hq' hf =>
    subst hq'
    obtain ⟨ok', eh⟩ := elemF_ok hb.ok hr hb.head he
    have hel := elem_deliv he
    have hm := hi.me_
    have hset : (l.set i k')[i]? = some k' := by
      rw [List.getElem?_set_self (List.getElem?_eq_some_iff.1 hb.at_).1]
    have hkin : k ∈ p.keep ∨ (k = Kp.fresh r.h ∧ findAt r.h.frm r.h.seq p.keep = none) := by
      rcases hb.how with ⟨_, h3⟩ | ⟨h3, _, _, h4, _⟩
      · exact .inl (by rw [← h3]; exact List.mem_of_getElem? hb.at_)
      · exact .inr ⟨h4, h3⟩
    have hnone : (k = Kp.fresh r.h ∧ findAt r.h.frm r.h.seq p.keep = none) → done r.h = false := fun ⟨_, hn⟩ => by
      cases hd : done r.h with
      | false => rfl
      | true =>
        rcases hi.old r.h hd with h8 | ⟨x, hx, h8, _⟩
        · have := hb.till; omega
        · exact absurd (by rw [h8]; exact ⟨rfl, rfl⟩) (findAt_none hn x hx)
    have hkd : k.h.to = me → k.delivered = done r.h := fun ht => by
      rcases hkin with h8 | h8
      · rw [hi.now k h8 ht, hb.head]
      · rw [hnone h8, h8.1]; rfl
    have hmem : ∀ x ∈ l.set i k', x = k' ∨ (x ∈ p.keep ∧ x.h ≠ r.h) := fun x hx => by
      obtain ⟨j, hj⟩ := List.mem_iff_getElem?.1 hx
      rw [List.getElem?_set] at hj
      split at hj
      · split at hj
        · exact .inl (by injection hj with e; exact e.symm)
        · cases hj
      · rename_i hij
        have hne : x.h ≠ r.h := fun e => hij (hb.up.inj hb.at_ hj (by rw [hb.head, e]; exact ⟨rfl, rfl⟩))
        rcases hb.mem x (List.mem_of_getElem? hj) with rfl | h2
        · exact absurd hb.head hne
        · exact .inr ⟨h2, hne⟩
    refine ⟨fun e3 => ?_, hq, hi.me_, fun x hx => ?_, fun x hx ht => ?_⟩
    · rcases hel with ⟨h8, _⟩ | ⟨_, h9, h10, _⟩
      · exact absurd e3 h8
      · rw [hm] at h9
        exact ⟨by rw [← hkd h9]; exact h10, hb.till, by rw [← hb.head]; exact h9⟩
    · simp only []
      by_cases e : x = r.h
      · rw [if_pos e] at hx
        rcases hel with ⟨h8, h9⟩ | ⟨h8, h9, h10, h11⟩
        · have hd : done r.h = true := by simpa [h8] using hx
          rcases hi.old r.h hd with h12 | ⟨y, hy, h12, h13⟩
          · have := hb.till; omega
          · refine .inr ⟨k', List.mem_of_getElem? hset, by rw [eh, hb.head, e], ?_⟩
            rw [h9]
            have hyl := hb.sub y hy
            obtain ⟨j, hj⟩ := List.mem_iff_getElem?.1 hyl
            have := hb.up.inj hb.at_ hj (by rw [hb.head, h12]; exact ⟨rfl, rfl⟩)
            subst this
            have : k = y := by have := hb.at_.symm.trans hj; injection this
            rw [this]; exact h13
        · exact .inr ⟨k', List.mem_of_getElem? hset, by rw [eh, hb.head, e], h11⟩
      · rw [if_neg e] at hx
        rcases hi.old x hx with h8 | ⟨y, hy, h8, h9⟩
        · exact .inl h8
        · obtain ⟨j, hj⟩ := List.mem_iff_getElem?.1 (hb.sub y hy)
          refine .inr ⟨y, ?_, h8, h9⟩
          refine List.mem_of_getElem? (i := j) ?_
          rw [List.getElem?_set_ne]
          · exact hj
          · rintro rfl
            have : k = y := by have := hb.at_.symm.trans hj; injection this
            exact e (by rw [← h8, ← this, hb.head])
    · rcases hmem x hx with rfl | ⟨hx, hne⟩
      · rw [eh, hb.head, if_pos rfl]
        rw [eh] at ht
        rcases hel with ⟨h8, h9⟩ | ⟨h8, h9, h10, h11⟩
        · rw [h9, hkd ht]; simp [h8]
        · rw [h11]; simp [h8]
      · rw [if_neg hne]; exact hi.now x hx ht
end Go.Proofs.YtmiaplgfbphfmaaGreatDoor
namespace Go.Proofs.YtmiaplgfbphfmaaGreatDoor

/-- A disk. -/
structure Dk where
  safe : List UInt8
  wait : List UInt8
deriving DecidableEq
def Dk.zero : Dk := ⟨[], []⟩
def linesGo (most : Nat) : List Rc → Nat → List (List UInt8) → List Rc × Nat × Int
  | acc, n, [] => (acc, n, 0)
  | acc, n, [last] => if last = [] then (acc, n, 0) else (acc, n, 9)
  | acc, n, l :: x :: ls => if (parseF l).2 ≠ 0 then (acc, n, (parseF l).2) else if acc.length = most then (acc, n, 2) else linesGo most (acc ++ [(parseF l).1]) (n + (l.length + 1)) (x :: ls)
/-- What disk.lines answers: the records that are whole, how many bytes these have, what is wrong with the next one. -/
def linesF (most : Nat) (s : List UInt8) : List Rc × Nat × Int := linesGo most [] 0 (pieces 10 s)
def diskCheck (d : Dk) : Int := if 60000 < d.safe.length ∨ 60000 < d.safe.length + d.wait.length then 2 else (linesF 200 d.safe).2.2
def putF (d : Dk) (r : Rc) : Dk × Int :=
  if diskCheck d ≠ 0 then (Dk.zero, diskCheck d) else if recCheck r ≠ 0 then (Dk.zero, recCheck r)
  else if 60000 < d.safe.length + d.wait.length + (recText r).length + 1 then (Dk.zero, 2) else (⟨d.safe, d.wait ++ recText r ++ [10]⟩, 0)
def syncF (d : Dk) : Dk × Int :=
  if diskCheck d ≠ 0 then (Dk.zero, diskCheck d) else if diskCheck ⟨d.safe ++ d.wait, []⟩ ≠ 0 then (Dk.zero, diskCheck ⟨d.safe ++ d.wait, []⟩) else (⟨d.safe ++ d.wait, []⟩, 0)
def recoverF (d : Dk) : (Dk × List Rc) × Int :=
  if diskCheck d ≠ 0 then ((Dk.zero, []), diskCheck d)
  else ((⟨d.safe ++ d.wait.take (linesF (200 - (linesF 200 d.safe).1.length) d.wait).2.1, []⟩, (linesF 200 d.safe).1 ++ (linesF (200 - (linesF 200 d.safe).1.length) d.wait).1), 0)

/-- The text of records. -/
def logText (rs : List Rc) : List UInt8 := rs.flatMap fun r => recText r ++ [10]
theorem logText_nil : logText [] = [] := rfl
theorem logText_cons (r : Rc) (rs : List Rc) : logText (r :: rs) = recText r ++ 10 :: logText rs := by
  unfold logText; rw [List.flatMap_cons, List.append_assoc]; rfl
theorem logText_append (a b : List Rc) : logText (a ++ b) = logText a ++ logText b := by
  unfold logText; rw [List.flatMap_append]
theorem logText_snoc (a : List Rc) (r : Rc) : logText (a ++ [r]) = logText a ++ recText r ++ [10] := by
  rw [logText_append, logText_cons, logText_nil, List.append_assoc]
theorem parse_text {r : Rc} (h : recCheck r = 0) (hl : (recText r).length ≤ 60000) : parseF (recText r) = (r, 0) := by
  unfold parseF; rw [if_neg (by omega)]; exact read_print h
theorem pieces_log (t : List UInt8) (ht : (10 : UInt8) ∉ t) : ∀ rs : List Rc, pieces 10 (logText rs ++ t) = rs.map recText ++ [t]
  | [] => by rw [logText_nil, List.nil_append, pieces_miss 10 t ht]; rfl
  | r :: rs => by
    rw [logText_cons, List.append_assoc, List.cons_append, pieces_hit 10 _ _ (recText_line r), pieces_log t ht rs]; rfl
theorem linesGo_log {most : Nat} (t : List UInt8) : ∀ (rs acc : List Rc) (n : Nat), (∀ r ∈ rs, recCheck r = 0) → (∀ r ∈ rs, (recText r).length ≤ 60000) → acc.length + rs.length ≤ most →
    linesGo most acc n (rs.map recText ++ [t]) = (acc ++ rs, n + (logText rs).length, if t = [] then 0 else 9)
  | [], acc, n, _, _, _ => by
    simp only [List.map_nil, List.nil_append, List.append_nil, logText_nil, List.length_nil, Nat.add_zero, linesGo]
    split <;> rfl
  | r :: rs, acc, n, h, hl, hm => by
    have hp := parse_text (h r List.mem_cons_self) (hl r List.mem_cons_self)
    simp only [List.length_cons] at hm
    have ih := linesGo_log (most := most) t rs (acc ++ [r]) (n + ((recText r).length + 1)) (fun x hx => h x (List.mem_cons_of_mem _ hx)) (fun x hx => hl x (List.mem_cons_of_mem _ hx)) (by simp only [List.length_append, List.length_singleton]; omega)
    rw [List.map_cons, List.cons_append]
    cases hq : rs.map recText ++ [t] with
    | nil => simp at hq
    | cons x ls =>
      rw [hq] at ih
      rw [linesGo, hp, if_neg (by simp), if_neg (by omega), ih, logText_cons]
      simp only [List.append_assoc, List.singleton_append, List.length_append, List.length_cons, Prod.mk.injEq, true_and, and_true]
      omega
theorem lines_log {most : Nat} {rs : List Rc} {t : List UInt8} (h : ∀ r ∈ rs, recCheck r = 0) (hl : (logText rs).length ≤ 60000) (hm : rs.length ≤ most) (ht : (10 : UInt8) ∉ t) : linesF most (logText rs ++ t) = (rs, (logText rs).length, if t = [] then 0 else 9) := by
  unfold linesF
  rw [pieces_log t ht, linesGo_log t rs [] 0 h (fun r hr => ?_) (by simpa using hm)]
  · simp
  · refine Nat.le_trans ?_ hl
    obtain ⟨a, b, rfl⟩ := List.append_of_mem hr
    rw [logText_append, logText_cons, List.length_append, List.length_append]
    omega
theorem lines_full {most : Nat} {rs : List Rc} (h : ∀ r ∈ rs, recCheck r = 0) (hl : (logText rs).length ≤ 60000) (hm : rs.length ≤ most) : linesF most (logText rs) = (rs, (logText rs).length, 0) := by
  have := lines_log (most := most) (t := []) h hl hm (by simp)
  rw [List.append_nil] at this
  exact this
/-- What lines tells of a text. -/
structure LinesOk (most : Nat) (s : List UInt8) (rs : List Rc) (n : Nat) (e : Int) : Prop where
  good : ∀ r ∈ rs, recCheck r = 0
  text : logText rs = s.take n
  le : n ≤ s.length
  many : rs.length ≤ most
  full : e = 0 → n = s.length
theorem parseF_ok {s : List UInt8} (h : (parseF s).2 = 0) : recText (parseF s).1 = s ∧ recCheck (parseF s).1 = 0 := by
  unfold parseF at h ⊢
  split
  · rename_i h1; rw [if_pos h1] at h; exact absurd h (by decide)
  · rename_i h1
    rw [if_neg h1] at h
    exact print_read (r := (recRead s).1) (Prod.ext rfl h)
theorem linesGo_ok {most : Nat} (c : UInt8 → Prop) : ∀ (ws : List (List UInt8)) (acc : List Rc) (n : Nat) (s : List UInt8), ws ≠ [] → Lib.join ws [10] = s → acc.length ≤ most →
    ∃ rs m, (linesGo most acc n ws).1 = acc ++ rs ∧ (linesGo most acc n ws).2.1 = n + m ∧ LinesOk (most - acc.length) s rs m (linesGo most acc n ws).2.2
  | [], _, _, _, h, _, _ => absurd rfl h
  | [last], acc, n, s, _, hs, hm => by
    rw [Lib.join_one] at hs
    subst hs
    refine ⟨[], 0, ?_, ?_, ⟨by simp, by simp [logText_nil], Nat.zero_le _, by simp, fun h => ?_⟩⟩
    · rw [linesGo]; split <;> simp
    · rw [linesGo]; split <;> rfl
    · rw [linesGo] at h
      split at h
      · rename_i e; rw [e]; rfl
      · exact absurd (show (9 : Int) = 0 from h) (by decide)
  | l :: x :: ls, acc, n, s, _, hs, hm => by
    rw [join_cons2, List.append_assoc, List.singleton_append] at hs
    rw [linesGo]
    split
    · rename_i h1
      exact ⟨[], 0, by simp, rfl, ⟨by simp, by simp [logText_nil], Nat.zero_le _, by simp, fun h => absurd h h1⟩⟩
    · rename_i h1
      split
      · exact ⟨[], 0, by simp, rfl, ⟨by simp, by simp [logText_nil], Nat.zero_le _, by simp, fun h => absurd (show (2 : Int) = 0 from h) (by decide)⟩⟩
      · rename_i h2
        simp only [ne_eq, Decidable.not_not] at h1
        obtain ⟨t1, t2⟩ := parseF_ok h1
        obtain ⟨rs, m, e1, e2, h3, h4, h5, h6, h7⟩ := linesGo_ok (most := most) c (x :: ls) (acc ++ [(parseF l).1]) (n + (l.length + 1)) _ (by simp) rfl (by simp only [List.length_append, List.length_singleton]; omega)
        refine ⟨(parseF l).1 :: rs, l.length + 1 + m, by rw [e1]; simp, by rw [e2]; omega, ⟨fun r hr => ?_, ?_, ?_, ?_, fun h => ?_⟩⟩
        · rcases List.mem_cons.1 hr with rfl | hr
          · exact t2
          · exact h3 r hr
        · rw [logText_cons, t1, h4, ← hs, List.take_append, List.take_of_length_le (l := l) (i := l.length + 1 + m) (by omega), show l.length + 1 + m - l.length = m + 1 by omega, List.take_succ_cons]
        · rw [← hs, List.length_append, List.length_cons]; omega
        · simp only [List.length_append, List.length_singleton] at h6
          simp only [List.length_cons]; omega
        · have := h7 h
          rw [← hs, List.length_append, List.length_cons]; omega
theorem linesF_ok (most : Nat) (s : List UInt8) : LinesOk most s (linesF most s).1 (linesF most s).2.1 (linesF most s).2.2 := by
  obtain ⟨rs, m, e1, e2, h⟩ := linesGo_ok (most := most) (fun _ => True) (pieces 10 s) [] 0 s (pieces_ne 10 s) (join_pieces 10 s) (Nat.zero_le _)
  unfold linesF
  rw [e1, e2]
  simpa using h
/-- A right disk: a log, and what waits. -/
structure DkOk (d : Dk) (rs : List Rc) : Prop where
  good : ∀ r ∈ rs, recCheck r = 0
  safe : d.safe = logText rs
  many : rs.length ≤ 200
  size : d.safe.length + d.wait.length ≤ 60000
theorem diskCheck_ok {d : Dk} (h : diskCheck d = 0) : DkOk d (linesF 200 d.safe).1 := by
  unfold diskCheck at h
  split at h
  · cases h
  · rename_i h1
    have hl := linesF_ok 200 d.safe
    have hf := hl.full h
    refine ⟨hl.good, ?_, hl.many, by omega⟩
    rw [hl.text, hf, List.take_length]
theorem DkOk.lines {d : Dk} {rs : List Rc} (h : DkOk d rs) : linesF 200 d.safe = (rs, d.safe.length, 0) := by
  have := h.size
  rw [h.safe] at this ⊢
  exact lines_full h.good (by omega) h.many
theorem DkOk.check {d : Dk} {rs : List Rc} (h : DkOk d rs) : diskCheck d = 0 := by
  unfold diskCheck
  have := h.size
  rw [if_neg (by omega), h.lines]
theorem DkOk.uniq {d : Dk} {a b : List Rc} (h : DkOk d a) (k : DkOk d b) : a = b := by
  have h1 := h.lines
  rw [k.lines] at h1
  exact (Prod.mk.inj h1).1.symm
theorem linesF_le {most : Nat} {s : List UInt8} : (linesF most s).2.1 ≤ s.length := (linesF_ok most s).le
end Go.Proofs.YtmiaplgfbphfmaaGreatDoor
namespace Go.Proofs.YtmiaplgfbphfmaaGreatDoor

theorem log_take : ∀ (b : List Rc) (k : Nat), ∃ j t, j ≤ b.length ∧ (logText b).take k = logText (b.take j) ++ t ∧ (10 : UInt8) ∉ t
  | [], k => ⟨0, [], Nat.le_refl _, by simp [logText_nil], by simp⟩
  | r :: b, k => by
    rcases Nat.lt_or_ge (recText r).length k with hk | hk
    · obtain ⟨j, t, h1, h2, h3⟩ := log_take b (k - ((recText r).length + 1))
      refine ⟨j + 1, t, by simp only [List.length_cons]; omega, ?_, h3⟩
      rw [logText_cons, List.take_append, List.take_of_length_le (l := recText r) (i := k) (by omega), show k - (recText r).length = (k - ((recText r).length + 1)) + 1 by omega, List.take_succ_cons, h2, List.take_succ_cons, logText_cons]
      simp [List.append_assoc]
    · refine ⟨0, (recText r).take k, Nat.zero_le _, ?_, fun h => recText_line r (List.mem_of_mem_take h)⟩
      rw [logText_cons, List.take_append_of_le_length hk]; rfl
theorem logText_take_le (b : List Rc) (j : Nat) : (logText (b.take j)).length ≤ (logText b).length := by
  conv => rhs; rw [← List.take_append_drop j b, logText_append, List.length_append]
  omega
/-- A disk of which all is known. -/
structure Logs (d : Dk) (a b : List Rc) : Prop where
  safe : d.safe = logText a
  wait : d.wait = logText b
  goodA : ∀ r ∈ a, recCheck r = 0
  goodB : ∀ r ∈ b, recCheck r = 0
  size : d.safe.length + d.wait.length ≤ 60000
  many : a.length ≤ 200
theorem Logs.ok {d : Dk} {a b : List Rc} (h : Logs d a b) : DkOk d a := ⟨h.goodA, h.safe, h.many, h.size⟩
theorem logs_zero : Logs Dk.zero [] [] := ⟨rfl, rfl, by simp, by simp, by decide, by decide⟩
/-- A record put. -/
theorem Logs.put {d x : Dk} {a b : List Rc} {r : Rc} (h : Logs d a b) (e : putF d r = (x, 0)) : Logs x a (b ++ [r]) := by
  unfold putF at e
  rw [if_neg (by simp [h.ok.check])] at e
  split at e
  · rename_i h1; simp only [Prod.mk.injEq] at e; exact absurd e.2 h1
  split at e
  · simp only [Prod.mk.injEq] at e; exact absurd e.2 (by decide)
  rename_i h1 h2
  simp only [Prod.mk.injEq, and_true] at e
  subst e
  refine ⟨h.safe, by rw [logText_snoc, ← h.wait], h.goodA, fun x hx => ?_, by simp only [List.length_append, List.length_singleton]; omega, h.many⟩
  rcases List.mem_append.1 hx with hx | hx
  · exact h.goodB x hx
  · obtain rfl := List.mem_singleton.1 hx; simpa using h1
theorem Logs.put_cases {d : Dk} {a b : List Rc} (h : Logs d a b) {r : Rc} (hr : recCheck r = 0) : putF d r = (Dk.zero, 2) ∨ (putF d r).2 = 0 := by
  unfold putF
  rw [if_neg (by simp [h.ok.check]), if_neg (by simp [hr])]
  split
  · exact .inl rfl
  · exact .inr rfl
/-- What waits made safe. -/
theorem Logs.sync {d : Dk} {a b : List Rc} (h : Logs d a b) (hm : a.length + b.length ≤ 200) : syncF d = (⟨logText (a ++ b), []⟩, 0) ∧ Logs ⟨logText (a ++ b), []⟩ (a ++ b) [] := by
  have hl : Logs ⟨logText (a ++ b), []⟩ (a ++ b) [] := by
    refine ⟨rfl, rfl, fun r hr => ?_, by simp, ?_, by simpa using hm⟩
    · rcases List.mem_append.1 hr with hr | hr
      · exact h.goodA r hr
      · exact h.goodB r hr
    · have := h.size
      rw [h.safe, h.wait] at this
      simp only [logText_append, List.length_append, List.length_nil]; omega
  refine ⟨?_, hl⟩
  unfold syncF
  have e : d.safe ++ d.wait = logText (a ++ b) := by rw [h.safe, h.wait, logText_append]
  rw [if_neg (by simp [h.ok.check]), e, if_neg (by simp [hl.ok.check])]
/-- Recovered: all that was safe, and of the rest a beginning; again the same. -/
theorem Logs.recover {d : Dk} {a b : List Rc} (h : Logs d a b) (hm : a.length + b.length ≤ 200) (k : Nat) :
    ∃ j, j ≤ b.length ∧ recoverF ⟨d.safe, d.wait.take k⟩ = ((⟨logText (a ++ b.take j), []⟩, a ++ b.take j), 0) ∧ Logs ⟨logText (a ++ b.take j), []⟩ (a ++ b.take j) [] := by
  obtain ⟨j, t, hj, e, ht⟩ := log_take b k
  have hs := h.size
  rw [h.wait] at hs
  have hle := logText_take_le b j
  have hgb : ∀ r ∈ b.take j, recCheck r = 0 := fun r hr => h.goodB r (List.mem_of_mem_take hr)
  have hd : DkOk ⟨d.safe, d.wait.take k⟩ a := ⟨h.goodA, h.safe, h.many, by simp only [List.length_take]; rw [h.wait]; omega⟩
  have h1 : linesF (200 - a.length) (d.wait.take k) = (b.take j, (logText (b.take j)).length, if t = [] then 0 else 9) := by
    rw [h.wait, e]
    refine lines_log hgb (by omega) (by rw [List.length_take]; omega) ht
  refine ⟨j, hj, ?_, ?_⟩
  · unfold recoverF
    rw [if_neg (by simp [hd.check])]
    have h2 := hd.lines
    simp only [] at h2 ⊢
    rw [h2]
    simp only []
    rw [h1]
    simp only [Prod.mk.injEq, Dk.mk.injEq, and_true, true_and]
    rw [h.wait, e, List.take_left, h.safe, logText_append]
  · refine ⟨rfl, rfl, fun r hr => ?_, by simp, ?_, ?_⟩
    · rcases List.mem_append.1 hr with hr | hr
      · exact h.goodA r hr
      · exact hgb r hr
    · rw [h.safe] at hs
      simp only [logText_append, List.length_append, List.length_nil]; omega
    · rw [List.length_append, List.length_take]; omega
theorem Logs.recoverAll {d : Dk} {a : List Rc} (h : Logs d a []) : recoverF d = ((d, a), 0) := by
  obtain ⟨j, hj, e, _⟩ := h.recover (by simpa using h.many) 0
  obtain rfl : j = 0 := by simpa using hj
  have hw : d.wait = [] := h.wait
  have hd : d = ⟨d.safe, d.wait.take 0⟩ := by cases d; simp only [] at hw; subst hw; rfl
  rw [← hd] at e
  rw [e]
  simp only [List.take_nil, List.append_nil, ← h.safe]
  congr 2
  cases d; simp only [] at hw; subst hw; rfl
end Go.Proofs.YtmiaplgfbphfmaaGreatDoor
namespace Go.Proofs.YtmiaplgfbphfmaaGreatDoor

theorem replayL_cons {p q : Pc} {r : Rc} {l : List Rc} (h : replayL p (r :: l) = (q, 0)) : (nextF p r).2 = 0 ∧ replayL (nextF p r).1 l = (q, 0) := by
  rw [replayL] at h
  by_cases h0 : (nextF p r).2 = 0
  · rw [if_neg (fun e => e h0)] at h; exact ⟨h0, h⟩
  · rw [if_pos h0] at h
    simp only [Prod.mk.injEq] at h
    exact absurd h.2 h0
theorem replayL_parts : ∀ (l1 : List Rc) {p q : Pc} {l2 : List Rc}, replayL p (l1 ++ l2) = (q, 0) → ∃ now, replayL p l1 = (now, 0) ∧ replayL now l2 = (q, 0)
  | [], p, q, l2, h => ⟨p, rfl, h⟩
  | r :: l1, p, q, l2, h => by
    rw [List.cons_append] at h
    obtain ⟨h1, h2⟩ := replayL_cons h
    obtain ⟨now, h3, h4⟩ := replayL_parts l1 h2
    exact ⟨now, by rw [replayL, if_neg (fun e => e h1), h3], h4⟩
theorem replayL_good : ∀ {l : List Rc} {p q : Pc}, replayL p l = (q, 0) → ∀ r ∈ l, recCheck r = 0
  | [], _, _, _, r, hr => by simp at hr
  | x :: l, p, q, h, r, hr => by
    obtain ⟨h1, h2⟩ := replayL_cons h
    rcases List.mem_cons.1 hr with rfl | hr
    · exact (nextF_ok (q := (nextF p r).1) (Prod.ext rfl h1)).2.1
    · exact replayL_good h2 r hr
theorem replayF_ok {me : Int} {l : List Rc} {q : Pc} (h : replayF me l = (q, 0)) : (newF me).2 = 0 ∧ l.length ≤ 200 ∧ replayL (newF me).1 l = (q, 0) := by
  unfold replayF at h
  by_cases h0 : (newF me).2 = 0
  · rw [if_neg (fun e => e h0)] at h
    by_cases h1 : 200 < l.length
    · rw [if_pos h1] at h
      simp only [Prod.mk.injEq] at h
      exact absurd h.2 (by decide)
    · rw [if_neg h1] at h
      exact ⟨h0, by omega, h⟩
  · rw [if_pos h0] at h
    simp only [Prod.mk.injEq] at h
    exact absurd h.2 h0
/-- In two parts. -/
theorem parts {me : Int} {l : List Rc} {q : Pc} (h : replayF me l = (q, 0)) (k : Nat) : ∃ now, replayF me (l.take k) = (now, 0) ∧ replayL now (l.drop k) = (q, 0) := by
  obtain ⟨h1, h2, h3⟩ := replayF_ok h
  rw [← List.take_append_drop k l] at h3
  obtain ⟨now, h4, h5⟩ := replayL_parts _ h3
  refine ⟨now, ?_, h5⟩
  unfold replayF
  rw [if_neg (fun e => e h1), if_neg (by rw [List.length_take]; omega), h4]
/-- The disk behind i records. -/
theorem disk_step {me : Int} {l : List Rc} {q : Pc} (h : replayF me l = (q, 0)) {i : Nat} {r : Rc} (hr : l[i]? = some r) {d : Dk} (hd : Logs d (l.take i) []) : putF d r = (Dk.zero, 2) ∨ ∃ x, putF d r = (x, 0) ∧ syncF x = (⟨logText (l.take (i + 1)), []⟩, 0) ∧ Logs ⟨logText (l.take (i + 1)), []⟩ (l.take (i + 1)) [] := by
  obtain ⟨_, h2, h3⟩ := replayF_ok h
  have hg := replayL_good h3 r (List.mem_of_getElem? hr)
  rcases hd.put_cases hg with h4 | h4
  · exact .inl h4
  · refine .inr ⟨(putF d r).1, Prod.ext rfl h4, ?_⟩
    have h5 := hd.put (x := (putF d r).1) (r := r) (Prod.ext rfl h4)
    have hi := (List.getElem?_eq_some_iff.1 hr).1
    have h6 := h5.sync (by rw [List.length_take]; simp; omega)
    have e : l.take i ++ ([] ++ [r]) = l.take (i + 1) := by rw [List.take_add_one, hr]; rfl
    rw [e] at h6
    exact h6
end Go.Proofs.YtmiaplgfbphfmaaGreatDoor
