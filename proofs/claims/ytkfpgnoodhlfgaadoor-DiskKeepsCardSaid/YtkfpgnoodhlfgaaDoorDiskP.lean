/- Disks of logs, in plain words, and their plain laws. No condition; no program in sight. -/
import Derived.Test.YtkfpgnoodhlfgaaDoorTextP
set_option linter.unusedSimpArgs false
set_option linter.unusedVariables false
namespace Go.Proofs.YtkfpgnoodhlfgaaDoor

/-- A disk. -/
structure Dk where
  safe : List UInt8
  wait : List UInt8
deriving DecidableEq
def Dk.zero : Dk := ⟨[], []⟩
def linesGo (most : Nat) : List Rc → Nat → List (List UInt8) → List Rc × Nat × Int
  | acc, n, [] => (acc, n, 0)
  | acc, n, [last] => if last = [] then (acc, n, 0) else (acc, n, 9)
  | acc, n, l :: x :: ls => if (parseF l).2 ≠ 0 then (acc, n, (parseF l).2) else if acc.length = most then (acc, n, 2) else linesGo most (acc ++ [(parseF l).1]) (n + (l.length + 1)) (x :: ls)
/-- What disk.lines answers: the records that are whole, how many bytes these have, what is wrong with the next one. -/
def linesF (most : Nat) (s : List UInt8) : List Rc × Nat × Int := linesGo most [] 0 (pieces 10 s)
def diskCheck (d : Dk) : Int := if 60000 < d.safe.length ∨ 60000 < d.safe.length + d.wait.length then 2 else (linesF 200 d.safe).2.2
def putF (d : Dk) (r : Rc) : Dk × Int :=
  if diskCheck d ≠ 0 then (Dk.zero, diskCheck d) else if recCheck r ≠ 0 then (Dk.zero, recCheck r)
  else if 60000 < d.safe.length + d.wait.length + (recText r).length + 1 then (Dk.zero, 2) else (⟨d.safe, d.wait ++ recText r ++ [10]⟩, 0)
def syncF (d : Dk) : Dk × Int :=
  if diskCheck d ≠ 0 then (Dk.zero, diskCheck d) else if diskCheck ⟨d.safe ++ d.wait, []⟩ ≠ 0 then (Dk.zero, diskCheck ⟨d.safe ++ d.wait, []⟩) else (⟨d.safe ++ d.wait, []⟩, 0)
def crashF (d : Dk) (n : Int) : Dk × Int :=
  if diskCheck d ≠ 0 then (Dk.zero, diskCheck d) else if n < 0 ∨ (d.wait.length : Int) < n then (Dk.zero, 3) else (⟨d.safe, d.wait.take n.toNat⟩, 0)
def recoverF (d : Dk) : (Dk × List Rc) × Int :=
  if diskCheck d ≠ 0 then ((Dk.zero, []), diskCheck d)
  else ((⟨d.safe ++ d.wait.take (linesF (200 - (linesF 200 d.safe).1.length) d.wait).2.1, []⟩, (linesF 200 d.safe).1 ++ (linesF (200 - (linesF 200 d.safe).1.length) d.wait).1), 0)

/-- The text of records. -/
def logText (rs : List Rc) : List UInt8 := rs.flatMap fun r => recText r ++ [10]
theorem logText_nil : logText [] = [] := rfl
theorem logText_cons (r : Rc) (rs : List Rc) : logText (r :: rs) = recText r ++ 10 :: logText rs := by
  unfold logText; rw [List.flatMap_cons, List.append_assoc]; rfl
theorem logText_append (a b : List Rc) : logText (a ++ b) = logText a ++ logText b := by
  unfold logText; rw [List.flatMap_append]
theorem logText_snoc (a : List Rc) (r : Rc) : logText (a ++ [r]) = logText a ++ recText r ++ [10] := by
  rw [logText_append, logText_cons, logText_nil, List.append_assoc]
theorem parse_text {r : Rc} (h : recCheck r = 0) (hl : (recText r).length ≤ 60000) : parseF (recText r) = (r, 0) := by
  unfold parseF; rw [if_neg (by omega)]; exact read_print h
theorem pieces_log (t : List UInt8) (ht : (10 : UInt8) ∉ t) : ∀ rs : List Rc, pieces 10 (logText rs ++ t) = rs.map recText ++ [t]
  | [] => by rw [logText_nil, List.nil_append, pieces_miss 10 t ht]; rfl
  | r :: rs => by
    rw [logText_cons, List.append_assoc, List.cons_append, pieces_hit 10 _ _ (recText_line r), pieces_log t ht rs]; rfl
theorem linesGo_log {most : Nat} (t : List UInt8) : ∀ (rs acc : List Rc) (n : Nat), (∀ r ∈ rs, recCheck r = 0) → (∀ r ∈ rs, (recText r).length ≤ 60000) → acc.length + rs.length ≤ most →
    linesGo most acc n (rs.map recText ++ [t]) = (acc ++ rs, n + (logText rs).length, if t = [] then 0 else 9)
  | [], acc, n, _, _, _ => by
    simp only [List.map_nil, List.nil_append, List.append_nil, logText_nil, List.length_nil, Nat.add_zero, linesGo]
    split <;> rfl
  | r :: rs, acc, n, h, hl, hm => by
    have hp := parse_text (h r List.mem_cons_self) (hl r List.mem_cons_self)
    simp only [List.length_cons] at hm
    have ih := linesGo_log (most := most) t rs (acc ++ [r]) (n + ((recText r).length + 1)) (fun x hx => h x (List.mem_cons_of_mem _ hx)) (fun x hx => hl x (List.mem_cons_of_mem _ hx)) (by simp only [List.length_append, List.length_singleton]; omega)
    rw [List.map_cons, List.cons_append]
    cases hq : rs.map recText ++ [t] with
    | nil => simp at hq
    | cons x ls =>
      rw [hq] at ih
      rw [linesGo, hp, if_neg (by simp), if_neg (by omega), ih, logText_cons]
      simp only [List.append_assoc, List.singleton_append, List.length_append, List.length_cons, Prod.mk.injEq, true_and, and_true]
      omega
theorem lines_log {most : Nat} {rs : List Rc} {t : List UInt8} (h : ∀ r ∈ rs, recCheck r = 0) (hl : (logText rs).length ≤ 60000) (hm : rs.length ≤ most) (ht : (10 : UInt8) ∉ t) : linesF most (logText rs ++ t) = (rs, (logText rs).length, if t = [] then 0 else 9) := by
  unfold linesF
  rw [pieces_log t ht, linesGo_log t rs [] 0 h (fun r hr => ?_) (by simpa using hm)]
  · simp
  · refine Nat.le_trans ?_ hl
    obtain ⟨a, b, rfl⟩ := List.append_of_mem hr
    rw [logText_append, logText_cons, List.length_append, List.length_append]
    omega
theorem lines_full {most : Nat} {rs : List Rc} (h : ∀ r ∈ rs, recCheck r = 0) (hl : (logText rs).length ≤ 60000) (hm : rs.length ≤ most) : linesF most (logText rs) = (rs, (logText rs).length, 0) := by
  have := lines_log (most := most) (t := []) h hl hm (by simp)
  rw [List.append_nil] at this
  exact this
/-- What lines tells of a text. -/
structure LinesOk (most : Nat) (s : List UInt8) (rs : List Rc) (n : Nat) (e : Int) : Prop where
  good : ∀ r ∈ rs, recCheck r = 0
  text : logText rs = s.take n
  le : n ≤ s.length
  many : rs.length ≤ most
  full : e = 0 → n = s.length
theorem parseF_ok {s : List UInt8} (h : (parseF s).2 = 0) : recText (parseF s).1 = s ∧ recCheck (parseF s).1 = 0 := by
  unfold parseF at h ⊢
  split
  · rename_i h1; rw [if_pos h1] at h; exact absurd h (by decide)
  · rename_i h1
    rw [if_neg h1] at h
    exact print_read (r := (recRead s).1) (Prod.ext rfl h)
theorem linesGo_ok {most : Nat} (c : UInt8 → Prop) : ∀ (ws : List (List UInt8)) (acc : List Rc) (n : Nat) (s : List UInt8), ws ≠ [] → Lib.join ws [10] = s → acc.length ≤ most →
    ∃ rs m, (linesGo most acc n ws).1 = acc ++ rs ∧ (linesGo most acc n ws).2.1 = n + m ∧ LinesOk (most - acc.length) s rs m (linesGo most acc n ws).2.2
  | [], _, _, _, h, _, _ => absurd rfl h
  | [last], acc, n, s, _, hs, hm => by
    rw [Lib.join_one] at hs
    subst hs
    refine ⟨[], 0, ?_, ?_, ⟨by simp, by simp [logText_nil], Nat.zero_le _, by simp, fun h => ?_⟩⟩
    · rw [linesGo]; split <;> simp
    · rw [linesGo]; split <;> rfl
    · rw [linesGo] at h
      split at h
      · rename_i e; rw [e]; rfl
      · exact absurd (show (9 : Int) = 0 from h) (by decide)
  | l :: x :: ls, acc, n, s, _, hs, hm => by
    rw [join_cons2, List.append_assoc, List.singleton_append] at hs
    rw [linesGo]
    split
    · rename_i h1
      exact ⟨[], 0, by simp, rfl, ⟨by simp, by simp [logText_nil], Nat.zero_le _, by simp, fun h => absurd h h1⟩⟩
    · rename_i h1
      split
      · exact ⟨[], 0, by simp, rfl, ⟨by simp, by simp [logText_nil], Nat.zero_le _, by simp, fun h => absurd (show (2 : Int) = 0 from h) (by decide)⟩⟩
      · rename_i h2
        simp only [ne_eq, Decidable.not_not] at h1
        obtain ⟨t1, t2⟩ := parseF_ok h1
        obtain ⟨rs, m, e1, e2, h3, h4, h5, h6, h7⟩ := linesGo_ok (most := most) c (x :: ls) (acc ++ [(parseF l).1]) (n + (l.length + 1)) _ (by simp) rfl (by simp only [List.length_append, List.length_singleton]; omega)
        refine ⟨(parseF l).1 :: rs, l.length + 1 + m, by rw [e1]; simp, by rw [e2]; omega, ⟨fun r hr => ?_, ?_, ?_, ?_, fun h => ?_⟩⟩
        · rcases List.mem_cons.1 hr with rfl | hr
          · exact t2
          · exact h3 r hr
        · rw [logText_cons, t1, h4, ← hs, List.take_append, List.take_of_length_le (l := l) (i := l.length + 1 + m) (by omega), show l.length + 1 + m - l.length = m + 1 by omega, List.take_succ_cons]
        · rw [← hs, List.length_append, List.length_cons]; omega
        · simp only [List.length_append, List.length_singleton] at h6
          simp only [List.length_cons]; omega
        · have := h7 h
          rw [← hs, List.length_append, List.length_cons]; omega
theorem linesF_ok (most : Nat) (s : List UInt8) : LinesOk most s (linesF most s).1 (linesF most s).2.1 (linesF most s).2.2 := by
  obtain ⟨rs, m, e1, e2, h⟩ := linesGo_ok (most := most) (fun _ => True) (pieces 10 s) [] 0 s (pieces_ne 10 s) (join_pieces 10 s) (Nat.zero_le _)
  unfold linesF
  rw [e1, e2]
  simpa using h
/-- A right disk: a log, and what waits. -/
structure DkOk (d : Dk) (rs : List Rc) : Prop where
  good : ∀ r ∈ rs, recCheck r = 0
  safe : d.safe = logText rs
  many : rs.length ≤ 200
  size : d.safe.length + d.wait.length ≤ 60000
theorem diskCheck_ok {d : Dk} (h : diskCheck d = 0) : DkOk d (linesF 200 d.safe).1 := by
  unfold diskCheck at h
  split at h
  · cases h
  · rename_i h1
    have hl := linesF_ok 200 d.safe
    have hf := hl.full h
    refine ⟨hl.good, ?_, hl.many, by omega⟩
    rw [hl.text, hf, List.take_length]
theorem DkOk.lines {d : Dk} {rs : List Rc} (h : DkOk d rs) : linesF 200 d.safe = (rs, d.safe.length, 0) := by
  have := h.size
  rw [h.safe] at this ⊢
  exact lines_full h.good (by omega) h.many
theorem DkOk.check {d : Dk} {rs : List Rc} (h : DkOk d rs) : diskCheck d = 0 := by
  unfold diskCheck
  have := h.size
  rw [if_neg (by omega), h.lines]
theorem diskCheck_iff {d : Dk} : diskCheck d = 0 ↔ ∃ rs, DkOk d rs := ⟨fun h => ⟨_, diskCheck_ok h⟩, fun ⟨_, h⟩ => h.check⟩
theorem DkOk.uniq {d : Dk} {a b : List Rc} (h : DkOk d a) (k : DkOk d b) : a = b := by
  have h1 := h.lines
  rw [k.lines] at h1
  exact (Prod.mk.inj h1).1.symm
theorem linesF_le {most : Nat} {s : List UInt8} : (linesF most s).2.1 ≤ s.length := (linesF_ok most s).le
end Go.Proofs.YtkfpgnoodhlfgaaDoor
