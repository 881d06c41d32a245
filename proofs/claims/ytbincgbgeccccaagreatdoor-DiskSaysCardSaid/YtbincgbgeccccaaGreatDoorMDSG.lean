/- The closed fact 'filed'. Condition: the library's variables are laid. -/
import Derived.Test.YtbincgbgeccccaaGreatDoorMDSH
import Derived.Test.YtbincgbgeccccaaGreatDoorStr
import Derived.Test.YtbincgbgeccccaaGreatDoorHeld
import Derived.Test.YtbincgbgeccccaaGreatDoorNoteP
import Derived.Test.YtbincgbgeccccaaGreatDoorEq
import Derived.Test.YtbincgbgeccccaaGreatDoorEqHd
import Derived.Test.YtbincgbgeccccaaGreatDoorBox
import Derived.Deep.DeepCutAuto
import Derived.Deep.Cut
import Derived.Test.YtbincgbgeccccaaGreatDoorConcat
import Derived.StillTailTactics
import Derived.Deep.RegionHeld3
import Derived.Lib.AppendStr
import Derived.Laws.AppendOwnNone
import Derived.Lib.AppendZerosOnto
import Derived.Test.YtbincgbgeccccaaGreatDoorNDig
import Derived.Test.YtbincgbgeccccaaGreatDoorNCkA
import Derived.Test.YtbincgbgeccccaaGreatDoorTextB
import Derived.Test.YtbincgbgeccccaaGreatDoorTextC
import Derived.Test.YtbincgbgeccccaaGreatDoorApp
import Derived.Test.YtbincgbgeccccaaGreatDoorChg
set_option linter.unusedSimpArgs false
set_option linter.unusedVariables false
namespace Go.Proofs.YtbincgbgeccccaaGreatDoor

/-- Pieces, each but the last with the byte behind it. -/
def afters (c : UInt8) : List (List UInt8) → List (List UInt8)
  | [] => []
  | [p] => [p]
  | p :: q :: ps => (p ++ [c]) :: afters c (q :: ps)
theorem afters_length (c : UInt8) : ∀ l, (afters c l).length = l.length
  | [] => rfl
  | [_] => rfl
  | p :: q :: ps => by rw [afters, List.length_cons, afters_length c (q :: ps)]; rfl
theorem afters_at (c : UInt8) : ∀ (l : List (List UInt8)) (k : Nat) (p : List UInt8), l[k]? = some p → k + 1 < l.length → (afters c l)[k]? = some (p ++ [c])
  | [], k, p, h, _ => by simp at h
  | [x], k, p, h, hk => by simp at hk
  | x :: y :: l, 0, p, h, _ => by simp at h; subst h; rfl
  | x :: y :: l, k + 1, p, h, hk => by
    rw [afters, List.getElem?_cons_succ]
    exact afters_at c (y :: l) k p (by simpa using h) (by simp only [List.length_cons] at hk ⊢; omega)
theorem afters_last (c : UInt8) : ∀ (l : List (List UInt8)) (k : Nat) (p : List UInt8), l[k]? = some p → k + 1 = l.length → (afters c l)[k]? = some p
  | [], k, p, h, _ => by simp at h
  | [x], k, p, h, hk => by
    have : k = 0 := by simp at hk; omega
    subst this; exact h
  | x :: y :: l, 0, p, h, hk => by simp at hk
  | x :: y :: l, k + 1, p, h, hk => by
    rw [afters, List.getElem?_cons_succ]
    exact afters_last c (y :: l) k p (by simpa using h) (by simp only [List.length_cons] at hk ⊢; omega)
theorem splitA_eq (c : UInt8) : ∀ (k : Nat) (l : List UInt8), l.length ≤ k → Lib.splitK [c] 1 (Lib.count l [c]) l = afters c (pieces c l) := by
  intro k
  induction k with
  | zero =>
    intro l hl
    obtain rfl : l = [] := List.eq_nil_of_length_eq_zero (by omega)
    rfl
  | succ k ih =>
    intro l hl
    have hi := Lib.index_one l c
    have hge := Lib.indexByte_ge l c
    by_cases hm : Lib.indexByte l c = -1
    · have h1 : Lib.index l [c] = -1 := by rw [hi, hm]
      rw [Lib.count_miss h1, pieces_miss c l (indexByte_miss hm)]; rfl
    · obtain ⟨o, ho⟩ := Int.eq_ofNat_of_zero_le (show 0 ≤ Lib.indexByte l c by omega)
      obtain ⟨h2, h3, h4⟩ := indexByte_split ho
      have h1 : Lib.index l [c] = (o : Int) := by rw [hi, ho]
      rw [Lib.count_hit (by simp) h1, Nat.add_comm, Lib.splitK, if_neg (by rw [h1]; simp), h1]
      have h5 : (o : Int).toNat = o := Int.toNat_natCast o
      have h6 : ([c] : List UInt8).length = 1 := rfl
      rw [h5, h6]
      rw [ih (l.drop (o + 1)) (by rw [List.length_drop]; omega)]
      have h7 : l.take (o + 1) = l.take o ++ [c] := by
        have hlen : (l.take o).length = o := by rw [List.length_take]; omega
        have : (l.take o ++ c :: l.drop (o + 1)).take (o + 1) = l.take o ++ [c] := by
          rw [List.take_append, List.take_of_length_le (by omega), hlen, show o + 1 - o = 1 by omega]; rfl
        rw [← h4] at this
        exact this
      have h8 : pieces c l = l.take o :: pieces c (l.drop (o + 1)) := by
        have := pieces_hit c (l.take o) (l.drop (o + 1)) h3
        rw [← h4] at this
        exact this
      rw [h7, h8]
      cases hp : pieces c (l.drop (o + 1)) with
      | nil => exact absurd hp (pieces_ne c _)
      | cons q ps => rfl
theorem pieces_free (c : UInt8) : ∀ (l : List UInt8), ∀ p ∈ pieces c l, c ∉ p
  | [], p, h => by simp [pieces] at h; subst h; simp
  | x :: l, p, h => by
    have ih := pieces_free c l
    unfold pieces at h
    split at h
    · rcases List.mem_cons.1 h with rfl | h
      · simp
      · exact ih p h
    · rename_i hx
      split at h
      · rename_i q qs hq
        rcases List.mem_cons.1 h with rfl | h
        · intro hm
          rcases List.mem_cons.1 hm with e | hm
          · exact hx e.symm
          · exact ih q (by rw [hq]; simp) hm
        · exact ih p (by rw [hq]; simp [h])
      · rename_i hq
        exact absurd hq (pieces_ne c l)
/-- One line more. -/
theorem linesGo_end {most : Nat} {acc : List Rc} {n : Nat} {PS : List (List UInt8)} {k : Nat} {p : List UInt8} (hp : PS[k]? = some p) (hk : k + 1 = PS.length) : linesGo most acc n (PS.drop k) = if p = [] then (acc, n, 0) else (acc, n, 9) := by
  have : PS.drop k = [p] := by
    obtain ⟨hl, e⟩ := List.getElem?_eq_some_iff.1 hp
    rw [List.drop_eq_getElem_cons hl, e, List.drop_eq_nil_of_le (by omega)]
  rw [this, linesGo]
theorem linesGo_step {most : Nat} {acc : List Rc} {n : Nat} {PS : List (List UInt8)} {k : Nat} {p : List UInt8} (hp : PS[k]? = some p) (hk : k + 1 < PS.length) : linesGo most acc n (PS.drop k) = if (parseF p).2 ≠ 0 then (acc, n, (parseF p).2) else if acc.length = most then (acc, n, 2) else linesGo most (acc ++ [(parseF p).1]) (n + (p.length + 1)) (PS.drop (k + 1)) := by
  obtain ⟨hl, e⟩ := List.getElem?_eq_some_iff.1 hp
  have h1 : PS.drop k = p :: PS[k + 1] :: PS.drop (k + 2) := by
    rw [List.drop_eq_getElem_cons hl, e, List.drop_eq_getElem_cons hk]
  have h2 : PS.drop (k + 1) = PS[k + 1] :: PS.drop (k + 2) := List.drop_eq_getElem_cons hk
  rw [h1, linesGo, ← h2]
end Go.Proofs.YtbincgbgeccccaaGreatDoor
namespace Go.Proofs.YtbincgbgeccccaaGreatDoor

def putR (d : Dk) (r : Rc) : Dk × Int :=
  if recCheck r ≠ 0 then (Dk.zero, recCheck r) else if 60000 < d.safe.length + d.wait.length + (recText r).length + 1 then (Dk.zero, 2) else (⟨d.safe, d.wait ++ recText r ++ [10]⟩, 0)
def syncR (d : Dk) : Dk × Int := if diskCheck ⟨d.safe ++ d.wait, []⟩ ≠ 0 then (Dk.zero, diskCheck ⟨d.safe ++ d.wait, []⟩) else (⟨d.safe ++ d.wait, []⟩, 0)
def recR (d : Dk) : Dk × List Rc := (⟨d.safe ++ d.wait.take (linesF (200 - (linesF 200 d.safe).1.length) d.wait).2.1, []⟩, (linesF 200 d.safe).1 ++ (linesF (200 - (linesF 200 d.safe).1.length) d.wait).1)
theorem putF_R {d : Dk} (r : Rc) (h : diskCheck d = 0) : putF d r = putR d r := by unfold putF putR; rw [if_neg (by simp [h])]
theorem syncF_R {d : Dk} (h : diskCheck d = 0) : syncF d = syncR d := by unfold syncF syncR; rw [if_neg (by simp [h])]
theorem recoverF_R {d : Dk} (h : diskCheck d = 0) : recoverF d = (recR d, 0) := by unfold recoverF recR; rw [if_neg (by simp [h])]
theorem putF_bad {d : Dk} (r : Rc) (h : diskCheck d ≠ 0) : putF d r = (Dk.zero, diskCheck d) := by unfold putF; rw [if_pos h]
theorem syncF_bad {d : Dk} (h : diskCheck d ≠ 0) : syncF d = (Dk.zero, diskCheck d) := by unfold syncF; rw [if_pos h]
theorem crashF_bad {d : Dk} (n : Int) (h : diskCheck d ≠ 0) : crashF d n = (Dk.zero, diskCheck d) := by unfold crashF; rw [if_pos h]
theorem recoverF_bad {d : Dk} (h : diskCheck d ≠ 0) : recoverF d = ((Dk.zero, []), diskCheck d) := by unfold recoverF; rw [if_pos h]
theorem crashF_out {d : Dk} {n : Int} (h : diskCheck d = 0) (hn : n < 0 ∨ (d.wait.length : Int) < n) : crashF d n = (Dk.zero, 3) := by unfold crashF; rw [if_neg (by simp [h]), if_pos hn]
theorem crashF_in {d : Dk} {n : Int} (h : diskCheck d = 0) (hn : ¬ (n < 0 ∨ (d.wait.length : Int) < n)) : crashF d n = (⟨d.safe, d.wait.take n.toNat⟩, 0) := by unfold crashF; rw [if_neg (by simp [h]), if_neg hn]
end Go.Proofs.YtbincgbgeccccaaGreatDoor
namespace Go.Proofs.YtbincgbgeccccaaGreatDoor
open Go.RowKit

theorem splitAfter_any (w : World) (v : Vars w) (c : UInt8) (l : List UInt8) (hl : l.length ≤ 1000000) :
    Calls Tryz.prog 34 #[sV l, sV [c]] w fun e w' => e = .returned (.slice (some ⟨w.heap.size, 0, none⟩) (pieces c l).length (pieces c l).length) ∧ w' = w.alloc (.cells ((afters c (pieces c l)).map sV).toArray 9) := by
  obtain ⟨m, hm⟩ := v.mx
  have hs := sV_size l
  have hle := Lib.countB_le ⟨#[c]⟩ (Nat.le_refl 1) (⟨l.toArray⟩ : ByteArray).size ⟨l.toArray⟩ (Nat.le_refl _)
  have hlen := Lib.splitB_all ⟨#[c]⟩ (Nat.le_refl 1) 1 _ ⟨l.toArray⟩ rfl
  have C := Tryz.strings_genSplit ⟨l.toArray⟩ ⟨#[c]⟩ 1 (-1) (Lib.countB ⟨l.toArray⟩ ⟨#[c]⟩ + 1) m w (by omega) hm (Nat.le_refl 1) (Nat.le_refl 1) (by decide) (by decide) (by rw [if_pos (by decide)]; omega)
  rw [Nat.add_sub_cancel, hlen] at C
  have e2 : Lib.cellsOf (Lib.splitB ⟨#[c]⟩ 1 (Lib.countB ⟨l.toArray⟩ ⟨#[c]⟩) ⟨l.toArray⟩) (Lib.countB ⟨l.toArray⟩ ⟨#[c]⟩ + 1) = ((Lib.splitB ⟨#[c]⟩ 1 (Lib.countB ⟨l.toArray⟩ ⟨#[c]⟩) ⟨l.toArray⟩).map Value.string).toArray := by rw [← hlen]; exact Lib.cellsOf_full _
  rw [e2] at C
  have h2 : (Lib.splitB ⟨#[c]⟩ 1 (Lib.countB ⟨l.toArray⟩ ⟨#[c]⟩) ⟨l.toArray⟩).map (·.data.toList) = afters c (pieces c l) := by rw [Lib.splitB_data]; exact splitA_eq c l.length l (Nat.le_refl _)
  have h3 : Lib.countB ⟨l.toArray⟩ ⟨#[c]⟩ + 1 = (pieces c l).length := by rw [← afters_length c, ← h2, List.length_map, hlen]
  rw [h3, map_str, h2] at C
  go_enter Tryz.func34, Tryz.ntmps34
  go_wp2_with (go_at_call 54; refine C.mono ?_; rintro e w' ⟨rfl, hw⟩; rw [hw])
  go_ret
  exact ⟨rfl, rfl⟩
end Go.Proofs.YtbincgbgeccccaaGreatDoor
namespace Go.Proofs.YtbincgbgeccccaaGreatDoor
open Go.RowKit
attribute [local irreducible] wpList

/-- What disk.Recover leaves. -/
def VPost (w : World) (X : (Dk × List Rc) × Int) (r : Ending) (w' : World) : Prop := ∃ A n c v, r = .returned (.tuple #[.agg #[.slice A n c, .slice none 0 0], v, .int .i64 X.2]) ∧ X.1.1.wait = [] ∧ Byt w' (NW w.heap.size w'.heap.size) A n c X.1.1.safe ∧ Own 13 (eNew w.heap.size eRc) w' w.heap.size 33 v X.1.2 ∧ Fr w w'
theorem vpost_err {w w' : World} {X : (Dk × List Rc) × Int} {c : Int} (h : X = ((Dk.zero, []), c)) (hf : Fr w w') : VPost w X (.returned (.tuple #[.agg #[.slice none 0 0, .slice none 0 0], .slice none 0 0, .int .i64 c])) w' := by
  subst h
  exact ⟨none, 0, 0, _, rfl, rfl, byt_nil, Own.nil, hf⟩
section
variable {α : Type} {size : Nat} {r : ERd α} {w w' : World} {base : Nat} {e : TypeId} {v : Value} {xs : List α}
theorem run_append_nil1 {P : Program} (t ty : TypeId) (i : TypeInfo) (c : Nat) (cs : List Value) (ht : P.underlying t = some (.slice e)) (hi : P.info? e = some i) (n : Nat) (hown : w.ownsRow base e size v n cs) :
    (Builtin.append_ #[t, t] ty #[v, .slice none 0 c]).run P w = .ok v w := by
  rcases hown.2 with ⟨rfl, rfl⟩ | ⟨g, cap, cur, rfl, _, _, hnc, _⟩
  · simp [Builtin.append_, run_underlying ht, sizeOf, typeInfo, hi, Builtin.lenOf, Builtin.firstCells]
  · simp [Builtin.append_, run_underlying ht, sizeOf, typeInfo, hi, Builtin.lenOf, Builtin.firstCells, hnc, storeCells]
/-- 'append(v, s...)' as one step of a region that draws its order: s lies beside v's block. -/
theorem step_appY {P : Program} {ops : Array Oper} {o : Oper} {a : Act} {K : Act → World → Prop} {Q : Exit → Act → World → Prop} {E : Prop} (hgd : o.guard = none) (s x : Operand) (t : TypeId)
    (ho : o.op = .call { callee := .builtin .append, args := #[s, x], argTypes := #[t, t] })
    (base : Nat) (e : TypeId) (z : Value) (bytes : Nat) (ht : P.underlying t = some (.slice e)) (hi : (P.info? e).map (fun i => (i.zero, i.size, i.bytes)) = some (some z, size, bytes))
    (hzs : z.cells.size = size) (hsz : 0 < size) (st : Stable size r) (F : Full size r) (v : Value) (xs : List α)
    (hs : a.eval s = v) (hown : Own size r w base e v xs) (A : Option Addr) (n c : Nat) (ys : List α) (hx : a.eval x = .slice A n c) (hy : Sl size r w (fun b => b < w.heap.size ∧ v.ownBlock ≠ some b) A n ys)
    (h63 : xs.length + n ≤ maxLen) (hbytes : (xs.length + n) * bytes ≤ lim) (hbase : base ≤ w.heap.size) (B : Nat) (A0 : World) (hbel : Below B A0 w) (hB : B ≤ base)
    (h : ∀ v' w', Hid (Own size r w' base e v' (xs ++ ys)) → Hid (Below B A0 w') → Hid (Chg (fun k => v.ownBlock = some k) w w') → K (a.put o.dst v') w') :
    if Region.wanted o (yielded ops a.tmps) = true then Oper.wp P o a w K Q else E := by
  have hw : Region.wanted o (yielded ops a.tmps) = true := by simp [Region.wanted, hgd]
  cases A with
  | none =>
    have hn : n = 0 := by
      rcases Nat.eq_zero_or_pos n with h0 | h0
      · exact h0
      · obtain ⟨ad, e, _⟩ := hy.2 h0; cases e
    subst hn
    have hl : ys = [] := List.eq_nil_of_length_eq_zero hy.1
    subst hl
    rw [if_pos hw]
    obtain ⟨i, hi1, hi2⟩ := Option.map_eq_some_iff.1 hi
    obtain ⟨cs, hrow, hr⟩ := hown
    have hrun := run_append_nil1 (P := P) (size := size) (w := w) (v := v) (base := base) t o.type i c cs ht hi1 _ hrow
    unfold Oper.wp execOp
    simp only [ho, resolve, invoke, builtin, Sem.run_bind, Sem.run_pure, Result.andThen_ok, List.map_toArray, List.map_cons, List.map_nil, hs, hx, hrun]
    exact h v w (by rw [List.append_nil]; exact ⟨cs, hrow, hr⟩) hbel (Chg.refl _ _)
  | some ad =>
    obtain ⟨cs, hcl, hcc, hc1, hcr⟩ : ∃ cs : List Value, cs.length = n * size ∧ (∀ j u, cs[j]? = some u → w.cell? (ad.add j) = some u) ∧ (∀ u ∈ cs, u.oneCell' = true) ∧ ∀ i x, ys[i]? = some x → r w (fun b => b < w.heap.size ∧ v.ownBlock ≠ some b) (fun j => cs[i * size + j]?) x := by
      rcases Nat.eq_zero_or_pos n with h0 | h0
      · have hl : ys = [] := List.eq_nil_of_length_eq_zero (by rw [hy.1]; exact h0)
        exact ⟨[], by simp [h0], fun j u hu => by simp at hu, fun u hu => by simp at hu, fun i x hx => by simp [hl] at hx⟩
      · obtain ⟨ad', e', hE⟩ := hy.els h0
        injection e' with e'
        subst e'
        obtain ⟨cs, k1, k2, k3, k4⟩ := hE.cells F st hsz
        exact ⟨cs, k1, k2, k3, k4⟩
    refine step_apps (w := w) hgd s x t ho base e z size bytes ht hi hzs hsz st v xs hs hown ad n c cs hx hcl hcc hc1 ys hy.1 hcr h63 hbytes hbase fun v' w' h1 h2 h3 => h v' w' h1 ?_ ?_
    · exact hbel.grown h2 (Nat.le_trans hB hbase) fun k hk => Nat.le_trans hB (h3 k hk)
    · exact ⟨h2.os, h2.tape, h2.output, h2.size, fun k hk hs => h2.block k hk fun e => hs e.symm⟩
theorem Own.newLe {N N' : Nat} (s : Stable size r) (h : Own size (eNew N r) w base e v xs) (hN : N' ≤ N) : Own size (eNew N' r) w base e v xs := by
  obtain ⟨cs, ho, hr⟩ := h
  exact ⟨cs, ho, fun i x hx => s.more (fun b hb => ⟨hb.1, Nat.le_trans hN hb.2⟩) (hr i x hx)⟩
theorem Sl.new {N : Nat} {S : Nat → Prop} {A : Option Addr} {n : Nat} (s : Stable size r) (h : Sl size r w S A n xs) (hN : ∀ b, S b → N ≤ b) : Sl size (eNew N r) w S A n xs :=
  ⟨h.1, fun hn => by obtain ⟨ad, e, hS, hr⟩ := h.2 hn; exact ⟨ad, e, hS, fun i x hx => s.more (fun b hb => ⟨hb, hN b hb⟩) (hr i x hx)⟩⟩
theorem Own.newChg {N : Nat} {T : Nat → Prop} (s : Stable size r) (h : Own size (eNew N r) w base e v xs) (k : Chg T w w') (hT : ∀ b, T b → b < N ∧ b < base) : Own size (eNew N r) w' base e v xs := by
  obtain ⟨cs, ho, hr⟩ := h
  refine ⟨cs, ⟨ho.1, ?_⟩, fun i x hx => ?_⟩
  · rcases ho.2 with h0 | ⟨g, cap, cur, h1, h2, h3, h4⟩
    · exact .inl h0
    · exact .inr ⟨g, cap, cur, h1, h2, k.blk h3 (fun e => by have := hT g e; omega), h4⟩
  · exact s.more (fun b hb => ⟨⟨Nat.lt_of_lt_of_le hb.1.1 k.size, hb.1.2⟩, hb.2⟩) (s.keep (fun p hp => k.cell hp.1.1 fun e => by have := hT _ e; have := hp.2; omega) (hr i x hx))
/-- It reads as a list, off new blocks. -/
theorem Own.slN {N : Nat} (s : Stable size r) (h : Own size (eNew N r) w base e v xs) (hN : N ≤ base) : ∃ A c, v = .slice A xs.length c ∧ (xs.length ≤ c ∧ c ≤ maxLen) ∧ Sl size r w (NW N w.heap.size) A xs.length xs := by
  obtain ⟨cs, ho, hr⟩ := h
  rcases ho.2 with ⟨rfl, h0⟩ | ⟨g, cap, cur, rfl, hbg, hg, hnc, hcm, hcs, htake⟩
  · exact ⟨none, 0, by rw [h0], ⟨by omega, by unfold maxLen; omega⟩, rfl, fun hn => by omega⟩
  · refine ⟨some ⟨g, 0, none⟩, cap, rfl, ⟨hnc, hcm⟩, rfl, fun hn => ⟨_, rfl, ⟨Nat.le_trans hN hbg, (Array.getElem?_eq_some_iff.1 hg).1⟩, fun i x hx => ?_⟩⟩
    refine s.mono (fun j u hj hu => ?_) (s.more (fun b hb => ⟨hb.2, hb.1.1⟩) (hr i x hx))
    rw [zero_add_addr, cell_of_heap hg]
    rw [← htake, List.getElem?_take] at hu
    split at hu
    · simpa using hu
    · cases hu
end
set_option maxRecDepth 100000 in
set_option maxHeartbeats 8000000 in
theorem diskRecover_any (w : World) (v : Vars w) (d : Dk) (A : Option Addr) (n c : Nat) (B : Option Addr) (m e : Nat) (hA : Byt w (LT w.heap.size) A n c d.safe) (hB : Byt w (LT w.heap.size) B m e d.wait) :
    Calls Tryz.prog 7 #[.agg #[.slice A n c, .slice B m e]] w (VPost w (recoverF d)) := by
  obtain ⟨X, hX⟩ : ∃ X, X = recoverF d := ⟨_, rfl⟩
  rw [← hX]
  have hl := hA.2.1
  have hl2 := hB.2.1
  obtain ⟨W1, hW1⟩ : ∃ W1, W1 = (w.alloc (.cells #[.slice A n c, .slice B m e] 24)).alloc (.cells #[.slice none 0 0, .slice none 0 0] 24) := ⟨_, rfl⟩
  obtain ⟨p, hp⟩ : ∃ p, p = w.heap.size := ⟨_, rfl⟩
  obtain ⟨q, hq⟩ : ∃ q, q = w.heap.size + 1 := ⟨_, rfl⟩
  have hp1 : W1.heap[p]? = some (.cells #[.slice A n c, .slice B m e] 24 (0, 0)) := by rw [hW1]; exact heap_old (heap_new hp)
  have hq1 : W1.heap[q]? = some (.cells #[.slice none 0 0, .slice none 0 0] 24 (0, 0)) := by rw [hW1]; exact heap_new (by rw [hq]; simp)
  have HF1 : Hid (Fr w W1) := by rw [hW1]; exact (frAlloc _ _).trans (frAlloc _ _)
  have HQW := Lib.hid hq
  have HP1 := Lib.hid hp1
  have HQ1 := Lib.hid hq1
  obtain ⟨ck, hck⟩ : ∃ ck, ck = diskCheck d := ⟨_, rfl⟩
  have CK : Hid (Calls Tryz.prog 10 #[.agg #[.slice A n c, .slice B m e]] W1 fun r w' => r = .returned (.int .i64 ck) ∧ Fr W1 w') := by rw [hck]; exact diskCheck_any W1 (v.go HF1.out) d A n c B m e (hA.go HF1.out) (hB.go HF1.out)
  have HV := Lib.hid v
  have HA := Lib.hid hA
  have HB := Lib.hid hB
  have HX := Lib.hid hX
  have HCK := Lib.hid hck
  (obtain ⟨bp0, bp1⟩ := box2_ hp1)
  clear hp1 hq1 hA hB hX hck v
  go_enter Tryz.func7, Tryz.ntmps7
  go_upto_region 1 with fail
  rw [← hW1, ← hq, ← hp]
  have NE : q ≠ p := by omega
  clear hW1 hp hq
  go_wp2_with fail
  (with_reducible refine (CK.out).mono ?_)
  rintro r w2 ⟨rfl, hf2⟩
  have HF2 : Hid (Fr w w2) := HF1.out.trans hf2
  have HP2 := Lib.hid (blk_go HP1.out hf2)
  have HQ2 := Lib.hid (blk_go HQ1.out hf2)
  clear hf2 CK HF1 HP1 HQ1 bp0 bp1
  by_cases h1 : ck = 0
  case neg =>
    have t1 : (ck != 0) = true := by simp [h1]
    have hx : Hid (X = ((Dk.zero, []), ck)) := HX.out.trans (by unfold recoverF; rw [← HCK.out, if_pos h1])
    have hqx := HQ2.out
    (obtain ⟨bq0, bq1⟩ := box2_ hqx)
    have y0 := blk_free (i := 0) hqx
    have y1 := blk_free (i := 1) hqx
    have lq := (Array.getElem?_eq_some_iff.1 hqx).1
    clear h1 hqx
    go_wp2_with fail
    refine bodyPost_ret (v := .tuple #[.agg #[.slice none 0 0, .slice none 0 0], .slice none 0 0, .int .i64 ck]) ?_ rfl (vpost_err hx.out (bel2_ HF2.out (by have := HQW.out; omega)))
    simp [results, Tryz.results7, go_sem, bq0, bq1, lq]
  case pos =>
  have t1 : (ck != 0) = false := by simp [h1]
  have hk := diskCheck_ok (HCK.out.symm.trans h1)
  have hsz := hk.size
  have hmany := hk.many
  obtain ⟨Y, hY⟩ : ∃ Y, Y = linesF 200 d.safe := ⟨_, rfl⟩
  rw [← hY] at hmany
  obtain ⟨Z, hZ⟩ : ∃ Z, Z = linesF (200 - Y.1.length) d.wait := ⟨_, rfl⟩
  have hx : Hid (X = ((⟨d.safe ++ d.wait.take Z.2.1, []⟩, Y.1 ++ Z.1), 0)) := HX.out.trans (by unfold recoverF; rw [← HCK.out, if_neg (by simp [h1]), hZ, hY])
  have hzl : Z.2.1 ≤ m := by rw [hZ, ← hl2]; exact linesF_le
  have hzm : Z.1.length ≤ 200 - Y.1.length := by rw [hZ]; exact (linesF_ok _ _).many
  rw [hl, hl2] at hsz
  have HSZ := Lib.hid hsz
  have hcv := conv_bytes w2 c (HA.out.2.go sByte HF2.out)
  have LN : Hid (Calls Tryz.prog 21 #[sV d.safe, .int .i64 200] w2 (LPost w2 Y)) := by rw [hY]; exact lines_any w2 (HV.out.go HF2.out) d.safe (by omega) 200 (by omega)
  have hpx := HP2.out
  (obtain ⟨bp0, bp1⟩ := box2_ hpx)
  have HY := Lib.hid hY
  have HZ := Lib.hid hZ
  have HZL := Lib.hid hzl
  clear h1 HX HCK hk hpx hsz hY hZ hzl
  go_wp2_with fail
  (with_reducible refine (LN.out).mono ?_)
  rintro r w3 ⟨v1, rfl, ho3, hf3⟩
  have HF3 : Hid (Fr w w3) := HF2.out.trans hf3
  have HF23 := Lib.hid hf3
  have HP3 := Lib.hid (blk_go HP2.out hf3)
  have HQ3 := Lib.hid (blk_go HQ2.out hf3)
  have HO3 := Lib.hid ho3
  obtain ⟨A3, c3, rfl, ⟨hac, hcm⟩, _⟩ := ho3.slC (sRc.newer _) (by decide)
  have HP2' := HP2
  clear ho3 hf3 LN bp0 bp1 hcv t1 HP2
  have hcv := conv_bytes w3 e (HB.out.2.go sByte HF3.out)
  obtain ⟨k1, hk1⟩ : ∃ k1, k1 = Y.1.length := ⟨_, rfl⟩
  have hk1' : k1 ≤ 200 := by omega
  have hw1 : IntKind.i64.wrap ((200 : Int) - (k1 : Int)) = ((200 - k1 : Nat) : Int) := by rw [IntKind.wrap_i64]; omega
  have LN2 : Hid (Calls Tryz.prog 21 #[sV d.wait, .int .i64 ((200 - k1 : Nat) : Int)] w3 (LPost w3 Z)) := by rw [HZ.out, ← hk1]; exact lines_any w3 (HV.out.go HF3.out) d.wait (by have := HSZ.out; omega) _ (by omega)
  rw [← hk1]
  have hpx := HP3.out
  (obtain ⟨bp0, bp1⟩ := box2_ hpx)
  have HK1 := Lib.hid hk1
  have HHM := Lib.hid hmany
  have HZM := Lib.hid hzm
  clear hpx hmany hzm hk1 hac
  go_wp2_with fail
  (with_reducible refine (LN2.out).mono ?_)
  rintro r w4 ⟨v2, rfl, ho4, hf4⟩
  have HF4 : Hid (Fr w w4) := HF3.out.trans hf4
  have HF24 : Fr w2 w4 := HF23.out.trans hf4
  have HQ4 := Lib.hid (blk_go HQ3.out hf4)
  have HP4 := Lib.hid (blk_go HP3.out hf4)
  have h23 := HF23.out.size
  have h34 := hf4.size
  have HO4 : Hid (Own 13 (eNew w2.heap.size eRc) w4 w2.heap.size 33 (.slice A3 k1 c3) Y.1) := by
    have := HO3.out.fr (sRc.newer _) hf4
    rw [HK1.out]
    exact this
  obtain ⟨A4, c4, rfl, ⟨hac4, hcm4⟩, hs4⟩ := ho4.slN sRc (Nat.le_refl _)
  have hown3 : ∀ k, (Value.slice A3 k1 c3).ownBlock = some k → w2.heap.size ≤ k ∧ k < w3.heap.size := by
    obtain ⟨cs, ho, _⟩ := HO3.out
    intro k hk
    rw [HK1.out] at hk
    exact ho.lt k hk
  have HS4 := Lib.hid hs4
  have HOW3 := Lib.hid hown3
  obtain ⟨n4, hn4⟩ : ∃ n4, n4 = Z.1.length := ⟨_, rfl⟩
  obtain ⟨kz, hkz⟩ : ∃ kz, kz = Z.2.1 := ⟨_, rfl⟩
  have HN4 := Lib.hid hn4
  have hkm : kz ≤ m := by rw [hkz]; exact HZL.out
  rw [← hkz, ← hn4]
  rw [← hkz] at hx
  have HKE := HB.out.1
  have CC : Hid (∀ W y, Fr w W → W.heap[y]? = some (.cells #[.slice A n c, .slice B kz e] 22 (0, 0)) → Calls Tryz.prog 20 #[.slice (some ⟨y, 0, none⟩) 2 2] W fun r w' => ∃ u, r = .returned u ∧ Own 1 eByte w' W.heap.size 5 u (d.safe ++ d.wait.take kz) ∧ Fr W w') := by
    intro W y hf hy
    have hsl := sl_two hy (blk_LT hy) (HA.out.go hf) (⟨by have := HB.out.1; omega, (HB.out.2.go sByte hf).pre hkm⟩ : Byt W _ B kz e (d.wait.take kz))
    have hl9 : (d.safe ++ d.wait.take kz).length ≤ 60000 := by rw [List.length_append, List.length_take]; have := HSZ.out; omega
    have := concatDBytes_any W _ 2 2 _ hsl (by unfold lim; omega) (by simp [lens]; unfold lim; rw [List.length_append, List.length_take] at hl9; omega) (by simp [lens]; unfold lim; rw [List.length_append, List.length_take] at hl9; omega)
    rw [show ([d.safe, d.wait.take kz] : List (List UInt8)).flatten = d.safe ++ d.wait.take kz by simp] at this
    exact this
  have hje : kz ≤ e := by have := HB.out.1; omega
  have i1 : (kz : Int) ≤ (e : Int) := by omega
  have i2 : 0 ≤ (kz : Int) := by omega
  have hpm : Y.1.length + n4 ≤ maxLen := by have := HHM.out; have := HZM.out; unfold maxLen; omega
  have hpb : (Y.1.length + n4) * 136 ≤ lim := by have := HHM.out; have := HZM.out; unfold lim; omega
  have hpx := HP4.out
  (obtain ⟨bp0, bp1⟩ := box2_ hpx)
  clear ho4 hf4 LN2 hcv hpx hkz hn4 hs4 hac4 hown3
  go_wp2_with fail
  have hSC : Hid (∀ w', Fr w4 w' → w'.cell? ⟨p, 0, none⟩ = some (.slice A n c) ∧ w'.cell? ⟨p, 1, none⟩ = some (.slice B m e)) := fun w' hf => ⟨(hf.cell (World.block_lt_of_cell? w4 _ bp0)).trans bp0, (hf.cell (World.block_lt_of_cell? w4 _ bp1)).trans bp1⟩
  refine held_begin (n := 15) (bs := #[false, false, false, false, false, false, false, false, false, false, false, false, false, false, false]) rfl rfl (by kernel_rfl) (S := fun w' => w'.cell? ⟨p, 0, none⟩ = some (.slice A n c) ∧ w'.cell? ⟨p, 1, none⟩ = some (.slice B m e)) (hSC.out _ (Below.refl _ _).drew) (fun hHeld => ?_)
  ((first | refine held_sk (i := 0) ?_ | refine held_tk (i := 0) ?_); (first | refine held_sk (i := 1) ?_ | refine held_tk (i := 1) ?_); (first | refine held_sk (i := 2) ?_ | refine held_tk (i := 2) ?_); (first | refine held_sk (i := 3) ?_ | refine held_tk (i := 3) ?_); (first | refine held_sk (i := 4) ?_ | refine held_tk (i := 4) ?_); (first | refine held_sk (i := 5) ?_ | refine held_tk (i := 5) ?_); (first | refine held_sk (i := 9) ?_ | refine held_tk (i := 9) ?_); (first | refine held_sk (i := 10) ?_ | refine held_tk (i := 10) ?_))
  refine held_one (i := 6) rfl (by kernel_rfl) (fun K hK => ?_)
  go_simp
  obtain ⟨w5, hw5⟩ : ∃ W : World, W = (World.alloc w4 (.cells #[.slice A n c, .slice B kz e] 22)).drew := ⟨_, rfl⟩
  obtain ⟨y5, hy5⟩ : ∃ y : Nat, y = w4.heap.size := ⟨_, rfl⟩
  rw [← hw5]
  have hk5 : w5.heap[y5]? = some (.cells #[.slice A n c, .slice B kz e] 22 (0, 0)) := by rw [hw5]; exact heap_d (heap_new hy5)
  have hf45 : Fr w4 w5 := by rw [hw5]; exact (frAlloc _ _).drew
  clear hw5
  subst hy5
  (refine held_back hK (a' := ?hA1) (l' := ?hL1) ?ha1 ?hl1 (hSC.out _ hf45) (fun hHeld => ?hh1); (case ha1 => first | with_reducible rfl | (simp only [Act.put, hq1, hq2, hq3, Option.isNone, Bool.not_true, Bool.not_false]; (try with_reducible rfl))); (case hl1 => (simp only [Act.put, hq1, hq2, hq3, Option.isNone, Bool.not_true, Bool.not_false]; (try with_reducible rfl))); clear hK K)
  refine held_one (i := 7) rfl (by kernel_rfl) (fun K hK => ?_)
  go_simp
  go_at_call 20
  (with_reducible refine (CC.out _ _ (HF4.out.trans hf45) hk5).mono ?_)
  rintro r w6 ⟨u, rfl, ho6, hf6⟩
  have hl9 : (d.safe ++ d.wait.take kz).length ≤ lim := by rw [List.length_append, List.length_take]; have := HSZ.out; unfold lim; omega
  obtain ⟨A6, c6, rfl, hb6⟩ := ho6.byt hl9
  obtain ⟨L, hL⟩ : ∃ L, L = d.safe ++ d.wait.take kz := ⟨_, rfl⟩
  obtain ⟨n6, hn6⟩ : ∃ n6, n6 = L.length := ⟨_, rfl⟩
  rw [← hL, ← hn6] at hb6
  rw [← hL, ← hn6]
  rw [← hL] at hx
  have hf46 : Fr w4 w6 := hf45.trans hf6
  have hf26 : Fr w2 w6 := HF24.trans hf46
  have h45 := hf45.size
  have h46 := hf46.size
  have HB6 := Lib.hid hb6
  clear ho6 hf6 hb6 hl9 hL hn6 hk5
  (refine held_back hK (a' := ?hA2) (l' := ?hL2) ?ha2 ?hl2 (hSC.out _ hf46) (fun hHeld => ?hh2); (case ha2 => first | with_reducible rfl | (simp only [Act.put, hq1, hq2, hq3, Option.isNone, Bool.not_true, Bool.not_false]; (try with_reducible rfl))); (case hl2 => (simp only [Act.put, hq1, hq2, hq3, Option.isNone, Bool.not_true, Bool.not_false]; (try with_reducible rfl))); clear hK K)
  ((first | refine held_sk (i := 8) ?_ | refine held_tk (i := 8) ?_))
  refine held_one (i := 11) rfl (by kernel_rfl) (fun K hK => ?_)
  have HO6 : Hid (Own 13 (eNew w2.heap.size eRc) w6 w2.heap.size 33 (.slice A3 k1 c3) Y.1) := HO4.out.fr (sRc.newer _) hf46
  have HY6 : Hid (Sl 13 (eNew w2.heap.size eRc) w6 (fun b => b < w6.heap.size ∧ (Value.slice A3 k1 c3).ownBlock ≠ some b) A4 n4 Z.1) := by
    rw [HN4.out]
    refine ((HS4.out.keep sRc fun x hx => hf46.cell hx.2).new sRc fun b hb => Nat.le_trans h23 hb.1).more (sRc.newer _) fun b hb => ⟨Nat.lt_of_lt_of_le hb.2 h46, fun e => ?_⟩
    have h1 := (HOW3.out b e).2
    have h2 := hb.1
    omega
  refine step_appY rfl (.tmp 46) (.tmp 47) 39 rfl w2.heap.size 33 (.agg #[.int .i64 0, .int .i64 0, .int .i64 0, .int .i64 0, .int .i64 0, .int .i64 0, .int .i64 0, .int .i64 0, .int .i64 0, .int .i64 0, .int .i64 0, .slice none 0 0, .slice none 0 0]) 136 Tryz.underlying39 infoRec rfl (by decide) (sRc.newer _) (fRc.newer _) (.slice A3 k1 c3) Y.1 rfl HO6.out A4 n4 c4 Z.1 rfl HY6.out hpm hpb hf26.size w2.heap.size w2 hf26 (Nat.le_refl _) ?_
  intro v7 w7 HO7 HF7 HC7
  have HB7 : Hid (Byt w7 (NW w2.heap.size w7.heap.size) A6 n6 c6 L) := ⟨HB6.out.1, (HB6.out.2.keep sByte fun x hx => HC7.out.cell hx.2 fun e => by have h1 := (HOW3.out _ e).2; have h2 := hx.1; omega).more sByte fun x hx => ⟨by have h2 := hx.1; omega, Nat.lt_of_lt_of_le hx.2 HC7.out.size⟩⟩
  have HF7w : Hid (Fr w w7) := HF2.out.trans HF7.out
  have hqx := blk_go HQ2.out HF7.out
  have hqw : q < w2.heap.size := (Array.getElem?_eq_some_iff.1 HQ2.out).1
  have hpp := blk_go HP2'.out HF7.out
  (refine held_back hK (a' := ?hA3) (l' := ?hL3) ?ha3 ?hl3 (⟨cell_of_heap (i := 0) hpp, cell_of_heap (i := 1) hpp⟩) (fun hHeld => ?hh3); (case ha3 => first | with_reducible rfl | (simp only [Act.put, hq1, hq2, hq3, Option.isNone, Bool.not_true, Bool.not_false]; (try with_reducible rfl))); (case hl3 => (simp only [Act.put, hq1, hq2, hq3, Option.isNone, Bool.not_true, Bool.not_false]; (try with_reducible rfl))); clear hK K)
  (obtain ⟨bq0, bq1⟩ := box2_ hqx)
  have y0 := blk_free (i := 0) hqx
  have y1 := blk_free (i := 1) hqx
  have lq := (Array.getElem?_eq_some_iff.1 hqx).1
  refine held_one (i := 12) rfl (by kernel_rfl) (fun K hK => ?_)
  go_simp
  (refine held_back hK (a' := ?hA4) (l' := ?hL4) ?ha4 ?hl4 (⟨(set2_far NE).trans (cell_of_heap (i := 0) hpp), (set2_far NE).trans (cell_of_heap (i := 1) hpp)⟩) (fun hHeld => ?hh4); (case ha4 => first | with_reducible rfl | (simp only [Act.put, hq1, hq2, hq3, Option.isNone, Bool.not_true, Bool.not_false]; (try with_reducible rfl))); (case hl4 => (simp only [Act.put, hq1, hq2, hq3, Option.isNone, Bool.not_true, Bool.not_false]; (try with_reducible rfl))); clear hK K)
  ((first | refine held_sk (i := 13) ?_ | refine held_tk (i := 13) ?_); (first | refine held_sk (i := 14) ?_ | refine held_tk (i := 14) ?_))
  refine wpAnyH_done (by kernel_rfl) ?_ _
  have KEY : Hid (∀ W9, Chg (fun b => b = q) w7 W9 → Fr w W9 → VPost w X (.returned (.tuple #[.agg #[.slice A6 n6 c6, .slice none 0 0], v7, .int .i64 0])) W9) := by
    intro W9 hC hF
    have hs9 := hC.size
    have h2w := HF2.out.size
    rw [hx.out]
    exact ⟨A6, n6, c6, v7, rfl, rfl, ⟨HB7.out.1, (HB7.out.2.chg sByte hC fun b hb => ⟨hb.2, fun e => by have e : b = q := e; have := hb.1; omega⟩).more sByte fun b hb => ⟨by have := hb.1; omega, by have := hb.2; omega⟩⟩,
      ((HO7.out.newChg sRc hC fun b e => by have e : b = q := e; omega).newLe sRc h2w).lower h2w, hF⟩
  clear hqx hpp
  go_wp2_with fail
  refine bodyPost_ret (v := .tuple #[.agg #[.slice A6 n6 c6, .slice none 0 0], v7, .int .i64 0]) ?_ rfl (KEY.out _ (Chg.of (grw2_ ⟨rfl, rfl, rfl, Nat.le_refl _, fun _ _ _ => rfl⟩)) (bel2_ HF7w.out (by have := HQW.out; omega)))
  simp [results, Tryz.results7, go_sem, bq0, bq1, lq]
end Go.Proofs.YtbincgbgeccccaaGreatDoor
namespace Go.Proofs.YtbincgbgeccccaaGreatDoor
open Go.RowKit
attribute [local irreducible] wpList

theorem rcV_false {x : Bool} (h : x = false) : (Ending.returned (.bool false)) = .returned (.bool x) := by rw [h]
theorem rcV_true {x : Bool} (h : x = true) : (Ending.returned (.bool true)) = .returned (.bool x) := by rw [h]
end Go.Proofs.YtbincgbgeccccaaGreatDoor
namespace Go.Proofs.YtbincgbgeccccaaGreatDoor
set_option maxRecDepth 100000
open Go.RowKit
attribute [local irreducible] wpList

theorem eRc_at {w : World} {S : Nat → Prop} {q : Addr} {x : Rc} (h : eRc w S (fun j => w.cell? (q.add j)) x) : ∃ A n c A2 n2 c2, (w.cell? q = some (.int .i64 x.kind) ∧ w.cell? ⟨q.block, q.off + 1, none⟩ = some (.int .i64 x.place) ∧ w.cell? ⟨q.block, q.off + 2, none⟩ = some (.int .i64 x.n) ∧ w.cell? ⟨q.block, q.off + 3, none⟩ = some (.int .i64 x.try_) ∧ w.cell? ⟨q.block, q.off + 4, none⟩ = some (.int .i64 x.h.frm) ∧ w.cell? ⟨q.block, q.off + 5, none⟩ = some (.int .i64 x.h.seq) ∧ w.cell? ⟨q.block, q.off + 6, none⟩ = some (.int .i64 x.h.to) ∧ w.cell? ⟨q.block, q.off + 7, none⟩ = some (.int .i64 x.h.till) ∧ w.cell? ⟨q.block, q.off + 8, none⟩ = some (.int .i64 x.h.bytes) ∧ w.cell? ⟨q.block, q.off + 9, none⟩ = some (.int .i64 x.h.block) ∧ w.cell? ⟨q.block, q.off + 10, none⟩ = some (.int .i64 x.s.id) ∧ w.cell? ⟨q.block, q.off + 11, none⟩ = some (.slice A n c) ∧ w.cell? ⟨q.block, q.off + 12, none⟩ = some (.slice A2 n2 c2)) ∧ x.wf ∧ Byt w S A n c x.s.data ∧ Byt w S A2 n2 c2 x.cargo := eRc_iff.1 h
def SaysRc (P : Program) (f : FuncId) : Prop := ∀ (W : World) (a b : Rc) (A : Option Addr) (na ca : Nat) (A2 : Option Addr) (na2 ca2 : Nat) (B : Option Addr) (nb cb : Nat) (B2 : Option Addr) (nb2 cb2 : Nat), Byt W (LT W.heap.size) A na ca a.s.data → Byt W (LT W.heap.size) A2 na2 ca2 a.cargo → Byt W (LT W.heap.size) B nb cb b.s.data → Byt W (LT W.heap.size) B2 nb2 cb2 b.cargo →
  Calls P f #[.agg #[.int .i64 a.kind, .int .i64 a.place, .int .i64 a.n, .int .i64 a.try_, .int .i64 a.h.frm, .int .i64 a.h.seq, .int .i64 a.h.to, .int .i64 a.h.till, .int .i64 a.h.bytes, .int .i64 a.h.block, .int .i64 a.s.id, .slice A na ca, .slice A2 na2 ca2], .agg #[.int .i64 b.kind, .int .i64 b.place, .int .i64 b.n, .int .i64 b.try_, .int .i64 b.h.frm, .int .i64 b.h.seq, .int .i64 b.h.to, .int .i64 b.h.till, .int .i64 b.h.bytes, .int .i64 b.h.block, .int .i64 b.s.id, .slice B nb cb, .slice B2 nb2 cb2]] W fun e w' => e = .returned (.bool (decide (a = b))) ∧ Fr W w'
set_option maxRecDepth 100000 in
set_option maxHeartbeats 2000000 in
theorem equalFuncRc_any (w : World) (f : FuncId) (hcf : ∀ (args : Array Value) (W : World), (callFunc f args).run Tryz.prog W = .ok (.enter f args) W) (hfn : SaysRc Tryz.prog f) (A A' : Option Addr) (n c n' c' : Nat) (xs ys : List Rc) (h : Sl 13 eRc w (LT w.heap.size) A n xs) (h' : Sl 13 eRc w (LT w.heap.size) A' n' ys) (hm : n ≤ maxLen) :
    Calls Tryz.prog 16 #[.slice A n c, .slice A' n' c', .func (.func f) #[] #[]] w fun e w' => e = .returned (.bool (decide (xs = ys))) ∧ Fr w w' := by
  unfold maxLen at hm
  have H := Lib.hid h
  have H' := Lib.hid h'
  have HFN := Lib.hid hfn
  clear h h' hfn
  by_cases hn : n = n'
  · have hne : ((n : Int) != (n' : Int)) = false := by simp [hn]
    have HN : Hid (n = n') := hn
    clear hn
    go_enter Tryz.func16, Tryz.ntmps16
    go_wp2_with fail
    go_loopw [17] (fun i wr => ∃ k : Nat, k ≤ n ∧ i = .int .i64 k ∧ Hid (Fr w wr) ∧ Hid (decide (xs = ys) = decide (xs.drop k = ys.drop k))) (fun i _ => n - (intOf i).toNat)
    case atStart => exact ⟨0, Nat.zero_le _, rfl, Below.refl _ _, rfl⟩
    case round =>
      obtain ⟨k, hk, rfl, HF, HS⟩ := hrel
      by_cases hlt : k < n
      · have hlt' : k < n' := HN.out ▸ hlt
        obtain ⟨ad, rfl, hE⟩ := (H.out.go sRc HF.out).els (by omega)
        obtain ⟨ad', rfl, hE'⟩ := (H'.out.go sRc HF.out).els (by omega)
        obtain ⟨a, ha, hra⟩ := hE.row hlt
        obtain ⟨b, hb, hrb⟩ := hE'.row hlt'
        obtain ⟨A1, n1, c1, D1, k1, d1, ⟨m0, m1, m2, m3, m4, m5, m6, m7, m8, m9, m10, m11, m12⟩, _, hy1, hz1⟩ := eRc_at hra
        obtain ⟨A2, n2, c2, D2, k2, d2, ⟨q0, q1, q2, q3, q4, q5, q6, q7, q8, q9, q10, q11, q12⟩, _, hy2, hz2⟩ := eRc_at hrb
        have HS' : Hid (decide (xs = ys) = (decide (a = b) && decide (xs.drop (k + 1) = ys.drop (k + 1)))) := drop_eq_cons ha hb HS.out
        have hlb : (ad'.add (k * 13)).block < wr.heap.size := by rw [block_of_add]; exact hE'.2.1
        clear HS ha hb hE hE' hra hrb
        (have Hy1 := Lib.hid hy1; clear hy1; have Hy2 := Lib.hid hy2; clear hy2; have Hz1 := Lib.hid hz1; clear hz1; have Hz2 := Lib.hid hz2; clear hz2)
        go_wp2_with fail
        refine (HFN.out ((wr.alloc (.cells #[.int .i64 a.kind, .int .i64 a.place, .int .i64 a.n, .int .i64 a.try_, .int .i64 a.h.frm, .int .i64 a.h.seq, .int .i64 a.h.to, .int .i64 a.h.till, .int .i64 a.h.bytes, .int .i64 a.h.block, .int .i64 a.s.id, .slice A1 n1 c1, .slice D1 k1 d1] 33)).alloc (.cells #[.int .i64 b.kind, .int .i64 b.place, .int .i64 b.n, .int .i64 b.try_, .int .i64 b.h.frm, .int .i64 b.h.seq, .int .i64 b.h.to, .int .i64 b.h.till, .int .i64 b.h.bytes, .int .i64 b.h.block, .int .i64 b.s.id, .slice A2 n2 c2, .slice D2 k2 d2] 33)) a b _ _ _ _ _ _ _ _ _ _ _ _ (Hy1.out.go (by (repeat' (first | exact Below.refl _ _ | refine below_drewN ?_ _ | refine Below.drew ?_ | refine frA ?_ _)))) (Hz1.out.go (by (repeat' (first | exact Below.refl _ _ | refine below_drewN ?_ _ | refine Below.drew ?_ | refine frA ?_ _)))) (Hy2.out.go (by (repeat' (first | exact Below.refl _ _ | refine below_drewN ?_ _ | refine Below.drew ?_ | refine frA ?_ _)))) (Hz2.out.go (by (repeat' (first | exact Below.refl _ _ | refine below_drewN ?_ _ | refine Below.drew ?_ | refine frA ?_ _))))).mono ?_
        rintro e w1 ⟨rfl, hf1⟩
        have HF1 : Hid (Fr w w1) := Fr.trans (by (repeat' (first | exact Below.refl _ _ | refine below_drewN ?_ _ | refine Below.drew ?_ | refine frA ?_ _ | refine Fr.trans ?_ HF.out))) hf1
        clear hf1 m0 m1 m2 m3 m4 m5 m6 m7 m8 m9 m10 m11 m12 q0 q1 q2 q3 q4 q5 q6 q7 q8 q9 q10 q11 q12
        by_cases hab : a = b
        · have hd : decide (a = b) = true := decide_eq_true hab
          clear hab
          go_wp2_with fail
          go_roundw
          case rel => exact ⟨k + 1, by omega, by go_num, HF1, by rw [Hid, HS'.out, hd]; simp⟩
          case measure => simp [intOf]; omega
        · have hd : decide (a = b) = false := decide_eq_false hab
          clear hab
          go_wp2_with fail
          go_ret
          exact ⟨retB (by rw [HS'.out, hd]; simp), HF1.out⟩
      · have HT : Hid (decide (xs = ys) = true) := by
          have h1 := H.out.1
          have h2 := H'.out.1
          rw [Hid, HS.out, List.drop_eq_nil_of_le (by omega), List.drop_eq_nil_of_le (by have := HN.out; omega)]; rfl
        go_wp2_with fail
        go_ret
        exact ⟨retB HT.out.symm, HF.out⟩
  · have hne : ((n : Int) != (n' : Int)) = true := by rw [bne_iff_ne]; omega
    have HF : Hid (decide (xs = ys) = false) := by
      rw [Hid, decide_eq_false_iff_not]; rintro rfl; exact hn (H.out.1.symm.trans H'.out.1)
    go_enter Tryz.func16, Tryz.ntmps16
    go_wp2_with fail
    go_ret
    exact ⟨retB HF.out.symm, Below.refl _ _⟩

theorem growRecs_nil (w : World) (n : Nat) (hm : n * 136 ≤ lim) (h63 : n ≤ lim) :
    Calls Tryz.prog 39 #[.slice none 0 0, .int .i64 n] w fun e w' => ∃ v, e = .returned v ∧ Own 13 eRc w' w.heap.size 33 v ([] : List (Rc)) ∧ Fr w w' := by
  obtain ⟨i0, hi0, hi1⟩ := Option.map_eq_some_iff.1 infoRec
  simp only [Prod.mk.injEq] at hi1
  obtain ⟨hz0, hz1, hz2⟩ := hi1
  unfold lim at h63 hm
  have h1 : ¬ ((n : Int) < 0) := by omega
  by_cases h0 : n = 0
  · subst h0
    clear hi0 hz0 hz1 hz2
    go_enter Tryz.func39, Tryz.ntmps39
    go_wp2
    go_ret
    exact ⟨_, rfl, Own.nil, Below.refl _ _⟩
  · have h4 : (n : Int) > 0 := by omega
    obtain ⟨G, hG⟩ : ∃ G, G = grownCap w n 0 33 := ⟨_, rfl⟩
    obtain ⟨cur, hcur⟩ : ∃ cur, cur = Builtin.zeroCells ((.agg #[.int .i64 0, .int .i64 0, .int .i64 0, .int .i64 0, .int .i64 0, .int .i64 0, .int .i64 0, .int .i64 0, .int .i64 0, .int .i64 0, .int .i64 0, .slice none 0 0, .slice none 0 0]) : Value).cells n ++ Builtin.zeroCells ((.agg #[.int .i64 0, .int .i64 0, .int .i64 0, .int .i64 0, .int .i64 0, .int .i64 0, .int .i64 0, .int .i64 0, .int .i64 0, .int .i64 0, .int .i64 0, .slice none 0 0, .slice none 0 0]) : Value).cells (G - n) := ⟨_, rfl⟩
    have hge := grownCap_ge w n 0 33
    have hle := grownCap_le_maxLen w n 0 33 (by unfold maxLen; omega)
    rw [← hG] at hge hle
    have hcs : cur.size = G * 13 := by
      rw [hcur, Array.size_append, size_zeroCells, size_zeroCells, ← Nat.add_mul]
      show (n + (G - n)) * 13 = G * 13
      congr 1; omega
    have hrz : Hid (∀ ty, (Builtin.append_ #[39, 3] ty #[.slice none 0 0, .int .i64 (n : Int)]).run Tryz.prog w = .ok (.slice (some ⟨w.heap.size, 0, none⟩) n G) (w.drew.alloc (.cells cur 33))) := fun ty => by
      have h := Lib.run_append_grow_zeros (P := Tryz.prog) w 39 3 ty 33 i0 (.agg #[.int .i64 0, .int .i64 0, .int .i64 0, .int .i64 0, .int .i64 0, .int .i64 0, .int .i64 0, .int .i64 0, .int .i64 0, .int .i64 0, .int .i64 0, .slice none 0 0, .slice none 0 0]) .i64 .i64 Tryz.underlying39 Tryz.underlying3 hi0 hz0 Option.none 0 0 [] (run_firstCells_none w.drew i0.size 0 0 0) n (by omega) (by rw [hz1]; decide) (by omega) (by omega)
        (by rw [hz2]; omega) (by rw [hz2, Nat.zero_add]; exact growslice_fits (by omega) (by omega))
      rw [Nat.zero_add] at h
      rw [h, hcur, hG]
      simp
    have HO : Hid (Own 13 eRc (w.drew.alloc (.cells cur 33)) w.heap.size 33 (.slice (some ⟨w.heap.size, 0, none⟩) 0 G) ([] : List (Rc))) :=
      ⟨[], ⟨by simp, .inr ⟨w.heap.size, G, cur, rfl, Nat.le_refl _, heap_alloc_new w.drew _, Nat.zero_le _, hle, hcs, by simp⟩⟩, fun i x h => by simp at h⟩
    clear hG hcur hle hcs hi0 hz0 hz1 hz2
    go_enter Tryz.func39, Tryz.ntmps39
    go_wp2_with (at_builtin; refine Lib.wpList_append_run _ rfl _ _ _ _ rfl _ _ rfl rfl _ _ (hrz.out _) ?_)
    go_ret
    exact ⟨_, rfl, HO.out, (Below.refl _ _).drew.alloc (Nat.le_refl _) _⟩

set_option maxHeartbeats 1000000 in
theorem concatRecs_any (w : World) (A : Option Addr) (n c : Nat) (ls : List (List (Rc))) (h : Sl 1 (eSl 13 136 eRc) w (LT w.heap.size) A n ls) (hm : n ≤ lim) (hs : lens ls * 136 ≤ lim) (hs1 : lens ls ≤ lim) :
    Calls Tryz.prog 25 #[.slice A n c] w fun e w' => ∃ v, e = .returned v ∧ Own 13 eRc w' w.heap.size 33 v ls.flatten ∧ Fr w w' := by
  obtain ⟨i0, hi0, _⟩ := Option.map_eq_some_iff.1 infoRec
  have hm1 := hm
  have hs2 := hs1
  unfold lim at hm1 hs2
  (have H := Lib.hid h; clear h; have Hi0 := Lib.hid hi0; clear hi0)
  go_enter Tryz.func25, Tryz.ntmps25
  go_wp2_with fail
  go_loop [3, 11] (fun s i => ∃ k : Nat, k ≤ n ∧ i = .int .i64 k ∧ s = .int .i64 (lens (ls.take k) : Nat)) (fun _ i => n - (intOf i).toNat)
  case atStart => exact ⟨0, Nat.zero_le _, rfl, by simp [lens]⟩
  case round =>
    obtain ⟨k, hk, rfl, rfl⟩ := hrel
    by_cases hlt : k < n
    · obtain ⟨ad, rfl, hE⟩ := H.out.els (by omega)
      obtain ⟨A', n', c', l, hl, hcl, hm', hc1, hc2, hsl⟩ := hE.slC hlt
      have h1 := lens_take_succ hl
      have h2 := lens_take_le ls (k + 1)
      rw [hsl.1] at h1
      obtain ⟨a, ha⟩ : ∃ a, a = lens (ls.take k) := ⟨_, rfl⟩
      obtain ⟨b, hb⟩ : ∃ b, b = lens (ls.take (k + 1)) := ⟨_, rfl⟩
      rw [← ha] at h1 ⊢
      rw [← hb] at h1 h2
      have hab : a + n' ≤ 140737488355328 := by omega
      have hneg : ¬ ((a : Int) + (n' : Int) < 0) := by omega
      have HB : Hid (b = a + n') := h1
      have HB2 := Lib.hid hb
      clear hl hsl h1 ha hb
      go_wp2_with fail
      go_round
      case rel => exact ⟨k + 1, by omega, by go_num, by rw [← HB2.out, HB.out]; go_num⟩
      case measure => simp [intOf]; omega
    · obtain rfl : k = n := by omega
      have ht : Hid (ls.take k = ls) := List.take_of_length_le (by rw [H.out.1]; exact Nat.le_refl _)
      rw [ht.out]
      obtain ⟨T, hT⟩ : ∃ T, T = lens ls := ⟨_, rfl⟩
      rw [← hT] at hs hs1 ⊢
      (have HT := Lib.hid hT; clear hT)
      go_wp2_with fail
      (with_reducible refine (growRecs_nil _ T hs hs1).mono ?_)
      rintro e w1 ⟨v1, rfl, ho1, hf1⟩
      (have Ho1 := Lib.hid ho1; clear ho1; have Hf1 := Lib.hid hf1; clear hf1)
      go_wp2_with fail
      go_loopw [6, 27] (fun v i wr => ∃ j : Nat, j ≤ k ∧ i = .int .i64 j ∧ Hid (Own 13 eRc wr w.heap.size 33 v (ls.take j).flatten) ∧ Hid (Below w.heap.size w wr)) (fun _ i _ => k - (intOf i).toNat)
      case atStart => exact ⟨0, Nat.zero_le _, rfl, Ho1, Hf1⟩
      case round =>
        obtain ⟨j, hj, rfl, HO, HF⟩ := hrel
        by_cases hlt2 : j < k
        · obtain ⟨ad, rfl, hE⟩ := H.out.els (by omega)
          obtain ⟨A', n', c', l, hl, hcl, hm', hc1, hc2, hsl⟩ := hE.slC hlt2
          have hcw : wr.cell? (ad.add j) = some (.slice A' n' c') := (HF.out.cell (p := ad.add j) (by rw [block_of_add]; exact hE.2.1)).trans hcl
          have Hlen : Hid ((ls.take j).flatten.length + n' ≤ T) := by
            have h1 := lens_take_succ hl
            have h2 := lens_take_le ls (j + 1)
            rw [hsl.1] at h1
            have := HT.out
            rw [Hid, length_flatten_lens]; omega
          have HT2 : Hid ((ls.take (j + 1)).flatten = (ls.take j).flatten ++ l) := by rw [Hid, take_snoc' hl, List.flatten_append]; simp
          have HTb : Hid (T * 136 ≤ lim ∧ T ≤ lim) := ⟨hs, hs1⟩
          cases A' with
          | none =>
            have hn0 : n' = 0 := by
              rcases Nat.eq_zero_or_pos n' with h0 | h0
              · exact h0
              · obtain ⟨ad', e, _⟩ := hsl.2 h0; cases e
            subst hn0
            have hl0 : l = [] := List.eq_nil_of_length_eq_zero hsl.1
            subst hl0
            have HO3 : Hid (Own 13 eRc wr w.heap.size 33 u6 (ls.take (j + 1)).flatten) := by rw [HT2.out, List.append_nil]; exact HO.out
            clear hl hcl hsl
            go_wp2_with (at_builtin; refine wpList_apps_nil _ rfl _ _ 39 rfl w.heap.size 33 i0 Tryz.underlying39 Hi0.out _ _ c' rfl HO.out rfl ?_)
            go_roundw
            case rel => exact ⟨j + 1, by omega, by go_num, HO3, HF⟩
            case measure => simp [intOf]; omega
          | some adb =>
            obtain ⟨news, hnl, hnc, hn1, hnr⟩ : ∃ news : List Value, news.length = n' * 13 ∧ (∀ j u, news[j]? = some u → w.cell? (adb.add j) = some u ∧ adb.block < w.heap.size) ∧ (∀ u ∈ news, u.oneCell' = true) ∧ ∀ i x, l[i]? = some x → eRc w (LT w.heap.size) (fun j => news[i * 13 + j]?) x := by
              rcases Nat.eq_zero_or_pos n' with h0 | h0
              · have hl0 : l = [] := List.eq_nil_of_length_eq_zero (by rw [hsl.1]; exact h0)
                exact ⟨[], by simp [h0], fun j u hu => by simp at hu, fun u hu => by simp at hu, fun i x hx => by simp [hl0] at hx⟩
              · obtain ⟨ad', e, hE'⟩ := hsl.els h0
                injection e with e
                subst e
                obtain ⟨cs, k1, k2, k3, k4⟩ := hE'.cells fRc sRc (by decide)
                exact ⟨cs, k1, fun j u hu => ⟨k2 j u hu, hE'.2.1⟩, k3, k4⟩
            have hll := hsl.1
            have hfar : Hid (∀ b, b < w.heap.size → u6.ownBlock ≠ some b) := fun b hb => HO.out.far hb
            clear hl hcl hsl
            (have Hnl := Lib.hid hnl; clear hnl; have Hnc := Lib.hid hnc; clear hnc; have Hn1 := Lib.hid hn1; clear hn1; have Hnr := Lib.hid hnr; clear hnr; have Hll := Lib.hid hll; clear hll)
            go_wp2_with (at_builtin; refine wpList_apps _ rfl _ _ 39 rfl w.heap.size 33 _ _ _ Tryz.underlying39 infoRec rfl (by decide) sRc _ (ls.take j).flatten rfl HO.out adb n' c' news rfl Hnl.out ?c1 Hn1.out l Hll.out ?c3 ?c4 ?c5 ?c6 ?_)
            case c1 => intro i u hu; obtain ⟨k1, k2⟩ := Hnc.out i u hu; exact (HF.out.cell (by rw [block_of_add]; exact k2)).trans k1
            case c3 =>
              intro i x hx
              exact (sRc).more (S := LT w.heap.size) (fun b hb => ⟨Nat.lt_of_lt_of_le hb HF.out.size, hfar.out b hb⟩) ((sRc).keep (fun p hp => HF.out.cell hp) (Hnr.out i x hx))
            case c4 => have := Hlen.out; have q := HTb.out.2; unfold maxLen; unfold lim at q; omega
            case c5 => exact Nat.le_trans (Nat.mul_le_mul_right _ Hlen.out) HTb.out.1
            case c6 => exact HF.out.size
            · intro v' w3 ho3 hg3 hge3
              have HO3 : Hid (Own 13 eRc w3 w.heap.size 33 v' (ls.take (j + 1)).flatten) := by rw [HT2.out]; exact ho3
              have HF3 : Hid (Below w.heap.size w w3) := HF.out.grown hg3 HF.out.size hge3
              clear ho3 hg3 hge3
              go_wp2
              go_roundw
              case rel => exact ⟨j + 1, by omega, by go_num, HO3, HF3⟩
              case measure => simp [intOf]; omega
        · obtain rfl : j = k := by omega
          rw [ht.out] at HO
          go_wp2_with fail
          go_ret
          exact ⟨_, rfl, HO.out, HF.out⟩
end Go.Proofs.YtbincgbgeccccaaGreatDoor
namespace Go.Proofs.YtbincgbgeccccaaGreatDoor
set_option maxRecDepth 100000
open Go.RowKit
attribute [local irreducible] wpList
section
variable {NN : Nat}
theorem growRecsN_nil (w : World) (n : Nat) (hm : n * 136 ≤ lim) (h63 : n ≤ lim) :
    Calls Tryz.prog 39 #[.slice none 0 0, .int .i64 n] w fun e w' => ∃ v, e = .returned v ∧ Own 13 (eNew NN eRc) w' w.heap.size 33 v ([] : List (Rc)) ∧ Fr w w' := by
  obtain ⟨i0, hi0, hi1⟩ := Option.map_eq_some_iff.1 infoRec
  simp only [Prod.mk.injEq] at hi1
  obtain ⟨hz0, hz1, hz2⟩ := hi1
  unfold lim at h63 hm
  have h1 : ¬ ((n : Int) < 0) := by omega
  by_cases h0 : n = 0
  · subst h0
    clear hi0 hz0 hz1 hz2
    go_enter Tryz.func39, Tryz.ntmps39
    go_wp2
    go_ret
    exact ⟨_, rfl, Own.nil, Below.refl _ _⟩
  · have h4 : (n : Int) > 0 := by omega
    obtain ⟨G, hG⟩ : ∃ G, G = grownCap w n 0 33 := ⟨_, rfl⟩
    obtain ⟨cur, hcur⟩ : ∃ cur, cur = Builtin.zeroCells ((.agg #[.int .i64 0, .int .i64 0, .int .i64 0, .int .i64 0, .int .i64 0, .int .i64 0, .int .i64 0, .int .i64 0, .int .i64 0, .int .i64 0, .int .i64 0, .slice none 0 0, .slice none 0 0]) : Value).cells n ++ Builtin.zeroCells ((.agg #[.int .i64 0, .int .i64 0, .int .i64 0, .int .i64 0, .int .i64 0, .int .i64 0, .int .i64 0, .int .i64 0, .int .i64 0, .int .i64 0, .int .i64 0, .slice none 0 0, .slice none 0 0]) : Value).cells (G - n) := ⟨_, rfl⟩
    have hge := grownCap_ge w n 0 33
    have hle := grownCap_le_maxLen w n 0 33 (by unfold maxLen; omega)
    rw [← hG] at hge hle
    have hcs : cur.size = G * 13 := by
      rw [hcur, Array.size_append, size_zeroCells, size_zeroCells, ← Nat.add_mul]
      show (n + (G - n)) * 13 = G * 13
      congr 1; omega
    have hrz : Hid (∀ ty, (Builtin.append_ #[39, 3] ty #[.slice none 0 0, .int .i64 (n : Int)]).run Tryz.prog w = .ok (.slice (some ⟨w.heap.size, 0, none⟩) n G) (w.drew.alloc (.cells cur 33))) := fun ty => by
      have h := Lib.run_append_grow_zeros (P := Tryz.prog) w 39 3 ty 33 i0 (.agg #[.int .i64 0, .int .i64 0, .int .i64 0, .int .i64 0, .int .i64 0, .int .i64 0, .int .i64 0, .int .i64 0, .int .i64 0, .int .i64 0, .int .i64 0, .slice none 0 0, .slice none 0 0]) .i64 .i64 Tryz.underlying39 Tryz.underlying3 hi0 hz0 Option.none 0 0 [] (run_firstCells_none w.drew i0.size 0 0 0) n (by omega) (by rw [hz1]; decide) (by omega) (by omega)
        (by rw [hz2]; omega) (by rw [hz2, Nat.zero_add]; exact growslice_fits (by omega) (by omega))
      rw [Nat.zero_add] at h
      rw [h, hcur, hG]
      simp
    have HO : Hid (Own 13 (eNew NN eRc) (w.drew.alloc (.cells cur 33)) w.heap.size 33 (.slice (some ⟨w.heap.size, 0, none⟩) 0 G) ([] : List (Rc))) :=
      ⟨[], ⟨by simp, .inr ⟨w.heap.size, G, cur, rfl, Nat.le_refl _, heap_alloc_new w.drew _, Nat.zero_le _, hle, hcs, by simp⟩⟩, fun i x h => by simp at h⟩
    clear hG hcur hle hcs hi0 hz0 hz1 hz2
    go_enter Tryz.func39, Tryz.ntmps39
    go_wp2_with (at_builtin; refine Lib.wpList_append_run _ rfl _ _ _ _ rfl _ _ rfl rfl _ _ (hrz.out _) ?_)
    go_ret
    exact ⟨_, rfl, HO.out, (Below.refl _ _).drew.alloc (Nat.le_refl _) _⟩

set_option maxHeartbeats 1000000 in
theorem concatRecsN_any (w : World) (A : Option Addr) (n c : Nat) (ls : List (List (Rc))) (h : Sl 1 (eSl 13 136 (eNew NN eRc)) w (LT w.heap.size) A n ls) (hm : n ≤ lim) (hs : lens ls * 136 ≤ lim) (hs1 : lens ls ≤ lim) :
    Calls Tryz.prog 25 #[.slice A n c] w fun e w' => ∃ v, e = .returned v ∧ Own 13 (eNew NN eRc) w' w.heap.size 33 v ls.flatten ∧ Fr w w' := by
  obtain ⟨i0, hi0, _⟩ := Option.map_eq_some_iff.1 infoRec
  have hm1 := hm
  have hs2 := hs1
  unfold lim at hm1 hs2
  (have H := Lib.hid h; clear h; have Hi0 := Lib.hid hi0; clear hi0)
  go_enter Tryz.func25, Tryz.ntmps25
  go_wp2_with fail
  go_loop [3, 11] (fun s i => ∃ k : Nat, k ≤ n ∧ i = .int .i64 k ∧ s = .int .i64 (lens (ls.take k) : Nat)) (fun _ i => n - (intOf i).toNat)
  case atStart => exact ⟨0, Nat.zero_le _, rfl, by simp [lens]⟩
  case round =>
    obtain ⟨k, hk, rfl, rfl⟩ := hrel
    by_cases hlt : k < n
    · obtain ⟨ad, rfl, hE⟩ := H.out.els (by omega)
      obtain ⟨A', n', c', l, hl, hcl, hm', hc1, hc2, hsl⟩ := hE.slC hlt
      have h1 := lens_take_succ hl
      have h2 := lens_take_le ls (k + 1)
      rw [hsl.1] at h1
      obtain ⟨a, ha⟩ : ∃ a, a = lens (ls.take k) := ⟨_, rfl⟩
      obtain ⟨b, hb⟩ : ∃ b, b = lens (ls.take (k + 1)) := ⟨_, rfl⟩
      rw [← ha] at h1 ⊢
      rw [← hb] at h1 h2
      have hab : a + n' ≤ 140737488355328 := by omega
      have hneg : ¬ ((a : Int) + (n' : Int) < 0) := by omega
      have HB : Hid (b = a + n') := h1
      have HB2 := Lib.hid hb
      clear hl hsl h1 ha hb
      go_wp2_with fail
      go_round
      case rel => exact ⟨k + 1, by omega, by go_num, by rw [← HB2.out, HB.out]; go_num⟩
      case measure => simp [intOf]; omega
    · obtain rfl : k = n := by omega
      have ht : Hid (ls.take k = ls) := List.take_of_length_le (by rw [H.out.1]; exact Nat.le_refl _)
      rw [ht.out]
      obtain ⟨T, hT⟩ : ∃ T, T = lens ls := ⟨_, rfl⟩
      rw [← hT] at hs hs1 ⊢
      (have HT := Lib.hid hT; clear hT)
      go_wp2_with fail
      (with_reducible refine (growRecsN_nil (NN := NN) _ T hs hs1).mono ?_)
      rintro e w1 ⟨v1, rfl, ho1, hf1⟩
      (have Ho1 := Lib.hid ho1; clear ho1; have Hf1 := Lib.hid hf1; clear hf1)
      go_wp2_with fail
      go_loopw [6, 27] (fun v i wr => ∃ j : Nat, j ≤ k ∧ i = .int .i64 j ∧ Hid (Own 13 (eNew NN eRc) wr w.heap.size 33 v (ls.take j).flatten) ∧ Hid (Below w.heap.size w wr)) (fun _ i _ => k - (intOf i).toNat)
      case atStart => exact ⟨0, Nat.zero_le _, rfl, Ho1, Hf1⟩
      case round =>
        obtain ⟨j, hj, rfl, HO, HF⟩ := hrel
        by_cases hlt2 : j < k
        · obtain ⟨ad, rfl, hE⟩ := H.out.els (by omega)
          obtain ⟨A', n', c', l, hl, hcl, hm', hc1, hc2, hsl⟩ := hE.slC hlt2
          have hcw : wr.cell? (ad.add j) = some (.slice A' n' c') := (HF.out.cell (p := ad.add j) (by rw [block_of_add]; exact hE.2.1)).trans hcl
          have Hlen : Hid ((ls.take j).flatten.length + n' ≤ T) := by
            have h1 := lens_take_succ hl
            have h2 := lens_take_le ls (j + 1)
            rw [hsl.1] at h1
            have := HT.out
            rw [Hid, length_flatten_lens]; omega
          have HT2 : Hid ((ls.take (j + 1)).flatten = (ls.take j).flatten ++ l) := by rw [Hid, take_snoc' hl, List.flatten_append]; simp
          have HTb : Hid (T * 136 ≤ lim ∧ T ≤ lim) := ⟨hs, hs1⟩
          cases A' with
          | none =>
            have hn0 : n' = 0 := by
              rcases Nat.eq_zero_or_pos n' with h0 | h0
              · exact h0
              · obtain ⟨ad', e, _⟩ := hsl.2 h0; cases e
            subst hn0
            have hl0 : l = [] := List.eq_nil_of_length_eq_zero hsl.1
            subst hl0
            have HO3 : Hid (Own 13 (eNew NN eRc) wr w.heap.size 33 u6 (ls.take (j + 1)).flatten) := by rw [HT2.out, List.append_nil]; exact HO.out
            clear hl hcl hsl
            go_wp2_with (at_builtin; refine wpList_apps_nil _ rfl _ _ 39 rfl w.heap.size 33 i0 Tryz.underlying39 Hi0.out _ _ c' rfl HO.out rfl ?_)
            go_roundw
            case rel => exact ⟨j + 1, by omega, by go_num, HO3, HF⟩
            case measure => simp [intOf]; omega
          | some adb =>
            obtain ⟨news, hnl, hnc, hn1, hnr⟩ : ∃ news : List Value, news.length = n' * 13 ∧ (∀ j u, news[j]? = some u → w.cell? (adb.add j) = some u ∧ adb.block < w.heap.size) ∧ (∀ u ∈ news, u.oneCell' = true) ∧ ∀ i x, l[i]? = some x → (eNew NN eRc) w (LT w.heap.size) (fun j => news[i * 13 + j]?) x := by
              rcases Nat.eq_zero_or_pos n' with h0 | h0
              · have hl0 : l = [] := List.eq_nil_of_length_eq_zero (by rw [hsl.1]; exact h0)
                exact ⟨[], by simp [h0], fun j u hu => by simp at hu, fun u hu => by simp at hu, fun i x hx => by simp [hl0] at hx⟩
              · obtain ⟨ad', e, hE'⟩ := hsl.els h0
                injection e with e
                subst e
                obtain ⟨cs, k1, k2, k3, k4⟩ := hE'.cells (fRc.newer NN) (sRc.newer NN) (by decide)
                exact ⟨cs, k1, fun j u hu => ⟨k2 j u hu, hE'.2.1⟩, k3, k4⟩
            have hll := hsl.1
            have hfar : Hid (∀ b, b < w.heap.size → u6.ownBlock ≠ some b) := fun b hb => HO.out.far hb
            clear hl hcl hsl
            (have Hnl := Lib.hid hnl; clear hnl; have Hnc := Lib.hid hnc; clear hnc; have Hn1 := Lib.hid hn1; clear hn1; have Hnr := Lib.hid hnr; clear hnr; have Hll := Lib.hid hll; clear hll)
            go_wp2_with (at_builtin; refine wpList_apps _ rfl _ _ 39 rfl w.heap.size 33 _ _ _ Tryz.underlying39 infoRec rfl (by decide) (sRc.newer NN) _ (ls.take j).flatten rfl HO.out adb n' c' news rfl Hnl.out ?c1 Hn1.out l Hll.out ?c3 ?c4 ?c5 ?c6 ?_)
            case c1 => intro i u hu; obtain ⟨k1, k2⟩ := Hnc.out i u hu; exact (HF.out.cell (by rw [block_of_add]; exact k2)).trans k1
            case c3 =>
              intro i x hx
              exact ((sRc.newer NN)).more (S := LT w.heap.size) (fun b hb => ⟨Nat.lt_of_lt_of_le hb HF.out.size, hfar.out b hb⟩) (((sRc.newer NN)).keep (fun p hp => HF.out.cell hp) (Hnr.out i x hx))
            case c4 => have := Hlen.out; have q := HTb.out.2; unfold maxLen; unfold lim at q; omega
            case c5 => exact Nat.le_trans (Nat.mul_le_mul_right _ Hlen.out) HTb.out.1
            case c6 => exact HF.out.size
            · intro v' w3 ho3 hg3 hge3
              have HO3 : Hid (Own 13 (eNew NN eRc) w3 w.heap.size 33 v' (ls.take (j + 1)).flatten) := by rw [HT2.out]; exact ho3
              have HF3 : Hid (Below w.heap.size w w3) := HF.out.grown hg3 HF.out.size hge3
              clear ho3 hg3 hge3
              go_wp2
              go_roundw
              case rel => exact ⟨j + 1, by omega, by go_num, HO3, HF3⟩
              case measure => simp [intOf]; omega
        · obtain rfl : j = k := by omega
          rw [ht.out] at HO
          go_wp2_with fail
          go_ret
          exact ⟨_, rfl, HO.out, HF.out⟩
end
end Go.Proofs.YtbincgbgeccccaaGreatDoor
namespace Go.Proofs.YtbincgbgeccccaaGreatDoor
open Go.RowKit
attribute [local irreducible] wpList

set_option maxRecDepth 100000 in
set_option maxHeartbeats 8000000 in
theorem refSameRec_any (w : World) (a b : Rc) (S T : Nat → Prop) (A : Option Addr) (na ca : Nat) (A2 : Option Addr) (na2 ca2 : Nat) (B : Option Addr) (nb cb : Nat) (B2 : Option Addr) (nb2 cb2 : Nat) (hA : Byt w (LT w.heap.size) A na ca a.s.data) (hA2 : Byt w (LT w.heap.size) A2 na2 ca2 a.cargo) (hB : Byt w (LT w.heap.size) B nb cb b.s.data) (hB2 : Byt w (LT w.heap.size) B2 nb2 cb2 b.cargo) :
    Calls Tryz.prog 17 #[.agg #[.int .i64 a.kind, .int .i64 a.place, .int .i64 a.n, .int .i64 a.try_, .int .i64 a.h.frm, .int .i64 a.h.seq, .int .i64 a.h.to, .int .i64 a.h.till, .int .i64 a.h.bytes, .int .i64 a.h.block, .int .i64 a.s.id, .slice A na ca, .slice A2 na2 ca2], .agg #[.int .i64 b.kind, .int .i64 b.place, .int .i64 b.n, .int .i64 b.try_, .int .i64 b.h.frm, .int .i64 b.h.seq, .int .i64 b.h.to, .int .i64 b.h.till, .int .i64 b.h.bytes, .int .i64 b.h.block, .int .i64 b.s.id, .slice B nb cb, .slice B2 nb2 cb2]] w fun e w' => e = .returned (.bool (decide (a = b))) ∧ Fr w w' := by
  obtain ⟨X, hX⟩ : ∃ X, X = decide (a = b) := ⟨_, rfl⟩
  rw [← hX]
  obtain ⟨W1, hW1⟩ : ∃ W1, W1 = (w.alloc (.cells #[.int .i64 a.kind, .int .i64 a.place, .int .i64 a.n, .int .i64 a.try_, .int .i64 a.h.frm, .int .i64 a.h.seq, .int .i64 a.h.to, .int .i64 a.h.till, .int .i64 a.h.bytes, .int .i64 a.h.block, .int .i64 a.s.id, .slice A na ca, .slice A2 na2 ca2] 33)).alloc (.cells #[.int .i64 b.kind, .int .i64 b.place, .int .i64 b.n, .int .i64 b.try_, .int .i64 b.h.frm, .int .i64 b.h.seq, .int .i64 b.h.to, .int .i64 b.h.till, .int .i64 b.h.bytes, .int .i64 b.h.block, .int .i64 b.s.id, .slice B nb cb, .slice B2 nb2 cb2] 33) := ⟨_, rfl⟩
  obtain ⟨p, hp⟩ : ∃ p, p = w.heap.size := ⟨_, rfl⟩
  have hp1 : W1.heap[p]? = some (.cells #[.int .i64 a.kind, .int .i64 a.place, .int .i64 a.n, .int .i64 a.try_, .int .i64 a.h.frm, .int .i64 a.h.seq, .int .i64 a.h.to, .int .i64 a.h.till, .int .i64 a.h.bytes, .int .i64 a.h.block, .int .i64 a.s.id, .slice A na ca, .slice A2 na2 ca2] 33 (0, 0)) := by rw [hW1]; exact heap_old (heap_new hp)
  have hq1 : W1.heap[p + 1]? = some (.cells #[.int .i64 b.kind, .int .i64 b.place, .int .i64 b.n, .int .i64 b.try_, .int .i64 b.h.frm, .int .i64 b.h.seq, .int .i64 b.h.to, .int .i64 b.h.till, .int .i64 b.h.bytes, .int .i64 b.h.block, .int .i64 b.s.id, .slice B nb cb, .slice B2 nb2 cb2] 33 (0, 0)) := by rw [hW1]; exact heap_new (by rw [hp]; simp)
  have HF : Hid (Fr w W1) := by rw [hW1]; exact (frAlloc _ _).trans (frAlloc _ _)
  have HQ := Lib.hid hq1
  have HP := Lib.hid hp1
  (obtain ⟨bp0, bp1, bp2, bp3, bp4, bp5, bp6, bp7, bp8, bp9, bp10, bp11, bp12⟩ := box13_ hp1)
  (obtain ⟨bq0, bq1, bq2, bq3, bq4, bq5, bq6, bq7, bq8, bq9, bq10, bq11, bq12⟩ := box13_ hq1)
  clear hp1 hq1
  have hna : na ≤ maxLen := by have := hA.1; omega
  have hna2 : na2 ≤ maxLen := by have := hA2.1; omega
  have E1 : Hid (∀ W, Fr w W → Calls Tryz.prog 26 #[.slice A na ca, .slice B nb cb] W fun e w' => e = .returned (.bool (decide (a.s.data = b.s.data))) ∧ Fr W w') := fun W hf => (equalBlock_any W _ _ A B na ca nb cb _ _ (hA.2.go sByte hf) (hB.2.go sByte hf) hna).mono fun e w' ⟨he, m, hm⟩ => ⟨he, by rw [hm]; exact frDrewN _ _⟩
  have E2 : Hid (∀ W, Fr w W → Calls Tryz.prog 23 #[.slice A2 na2 ca2, .slice B2 nb2 cb2] W fun e w' => e = .returned (.bool (decide (a.cargo = b.cargo))) ∧ Fr W w') := fun W hf => (equalBytes_any W _ _ A2 B2 na2 ca2 nb2 cb2 _ _ (hA2.2.go sByte hf) (hB2.2.go sByte hf) hna2).mono fun e w' ⟨he, m, hm⟩ => ⟨he, by rw [hm]; exact frDrewN _ _⟩
  have hne : ∀ {c : Prop}, (a = b → c) → ¬ c → Hid (X = false) := fun h1 h2 => by rw [Hid, hX]; exact decide_eq_false fun e => h2 (h1 e)
  have HXX := Lib.hid hX
  clear hX hA hA2 hB hB2 hna hna2
  go_enter Tryz.func17, Tryz.ntmps17
  go_upto_region 1 with fail
  rw [← hW1, ← hp]
  clear hW1 hp
  by_cases h1 : a.kind = b.kind
  case neg =>
    have t1 : (a.kind == b.kind) = false := by simp [h1]
    have HX := hne (c := a.kind = b.kind) (fun e => by rw [e]) h1
    clear hne
    go_wp2_with fail
    go_ret
    exact ⟨rcV_false HX.out, HF.out.trans (by (repeat' (first | exact Below.refl _ _ | refine below_drewN ?_ _ | refine Below.drew ?_ | refine frA ?_ _)))⟩
  case pos =>
  have t1 : (a.kind == b.kind) = true := by simp [h1]
  by_cases h2 : a.place = b.place
  case neg =>
    have t2 : (a.place == b.place) = false := by simp [h2]
    have HX := hne (c := a.place = b.place) (fun e => by rw [e]) h2
    clear hne
    go_wp2_with fail
    go_ret
    exact ⟨rcV_false HX.out, HF.out.trans (by (repeat' (first | exact Below.refl _ _ | refine below_drewN ?_ _ | refine Below.drew ?_ | refine frA ?_ _)))⟩
  case pos =>
  have t2 : (a.place == b.place) = true := by simp [h2]
  by_cases h3 : a.n = b.n
  case neg =>
    have t3 : (a.n == b.n) = false := by simp [h3]
    have HX := hne (c := a.n = b.n) (fun e => by rw [e]) h3
    clear hne
    go_wp2_with fail
    go_ret
    exact ⟨rcV_false HX.out, HF.out.trans (by (repeat' (first | exact Below.refl _ _ | refine below_drewN ?_ _ | refine Below.drew ?_ | refine frA ?_ _)))⟩
  case pos =>
  have t3 : (a.n == b.n) = true := by simp [h3]
  by_cases h4 : a.try_ = b.try_
  case neg =>
    have t4 : (a.try_ == b.try_) = false := by simp [h4]
    have HX := hne (c := a.try_ = b.try_) (fun e => by rw [e]) h4
    clear hne
    go_wp2_with fail
    go_ret
    exact ⟨rcV_false HX.out, HF.out.trans (by (repeat' (first | exact Below.refl _ _ | refine below_drewN ?_ _ | refine Below.drew ?_ | refine frA ?_ _)))⟩
  case pos =>
  have t4 : (a.try_ == b.try_) = true := by simp [h4]
  by_cases h5 : a.h = b.h
  case neg =>
    have hq := fun V => (eqHd a.h b.h V).trans (by rw [decide_eq_false h5])
    have HX := hne (c := a.h = b.h) (fun e => by rw [e]) h5
    have HH := Lib.hid h5
    clear h5
    clear hne
    go_wp2_with fail
    go_ret
    exact ⟨rcV_false HX.out, HF.out.trans (by (repeat' (first | exact Below.refl _ _ | refine below_drewN ?_ _ | refine Below.drew ?_ | refine frA ?_ _)))⟩
  case pos =>
  have hq := fun V => (eqHd a.h b.h V).trans (by rw [decide_eq_true h5])
  have HH := Lib.hid h5
  clear h5
  by_cases h6 : a.s.id = b.s.id
  case neg =>
    have t6 : (a.s.id == b.s.id) = false := by simp [h6]
    have HX := hne (c := a.s.id = b.s.id) (fun e => by rw [e]) h6
    clear hne
    go_wp2_with fail
    go_ret
    exact ⟨rcV_false HX.out, HF.out.trans (by (repeat' (first | exact Below.refl _ _ | refine below_drewN ?_ _ | refine Below.drew ?_ | refine frA ?_ _)))⟩
  case pos =>
  have t6 : (a.s.id == b.s.id) = true := by simp [h6]
  obtain ⟨d1, hd1⟩ : ∃ d1, d1 = decide (a.s.data = b.s.data) := ⟨_, rfl⟩
  rw [← hd1] at E1
  obtain ⟨d2, hd2⟩ : ∃ d2, d2 = decide (a.cargo = b.cargo) := ⟨_, rfl⟩
  rw [← hd2] at E2
  have HALL : Hid (X = (d1 && d2)) := by
    rw [Hid, HXX.out, hd1, hd2]
    obtain ⟨_, _, _, _, _, ⟨_, _⟩, _⟩ := a
    obtain ⟨_, _, _, _, _, ⟨_, _⟩, _⟩ := b
    have h5 := HH.out
    simp only at h1 h2 h3 h4 h5 h6
    subst h1 h2 h3 h4 h5 h6
    simp
  have H1 := Lib.hid h1
  have H2 := Lib.hid h2
  have H3 := Lib.hid h3
  have H4 := Lib.hid h4
  have H6 := Lib.hid h6
  clear h1 h2 h3 h4 h6 hne hd1 hd2
  go_wp2_with fail
  (with_reducible refine (E1.out _ HF.out).mono ?_)
  rintro e w2 ⟨rfl, hf2⟩
  have HF2 : Hid (Fr w w2) := HF.out.trans hf2
  have hq2 := blk_go HQ.out hf2
  have hp2 := blk_go HP.out hf2
  clear hf2 bp0 bp1 bp2 bp3 bp4 bp5 bp6 bp7 bp8 bp9 bp10 bp11 bp12 bq0 bq1 bq2 bq3 bq4 bq5 bq6 bq7 bq8 bq9 bq10 bq11 bq12
  (obtain ⟨bp0, bp1, bp2, bp3, bp4, bp5, bp6, bp7, bp8, bp9, bp10, bp11, bp12⟩ := box13_ hp2)
  (obtain ⟨bq0, bq1, bq2, bq3, bq4, bq5, bq6, bq7, bq8, bq9, bq10, bq11, bq12⟩ := box13_ hq2)
  clear hp2 hq2
  cases d1 with
  | false =>
    go_wp2_with fail
    go_ret
    exact ⟨rcV_false HALL.out, HF2.out⟩
  | true =>
    go_wp2_with fail
    (with_reducible refine (E2.out _ HF2.out).mono ?_)
    rintro e w3 ⟨rfl, hf3⟩
    have HF3 : Hid (Fr w w3) := HF2.out.trans hf3
    clear hf3
    go_wp2_with fail
    go_ret
    exact ⟨by rw [HALL.out]; simp, HF3.out⟩
end Go.Proofs.YtbincgbgeccccaaGreatDoor
namespace Go.Proofs.YtbincgbgeccccaaGreatDoor
open Go.RowKit
attribute [local irreducible] wpList

theorem infoStr : (Tryz.prog.info? 9).map (fun i => (i.zero, i.size, i.bytes)) = some (some (.string ⟨#[]⟩), 1, 16) := by kernel_rfl
set_option maxRecDepth 100000 in
theorem idx11 (r : Rc) {k : Nat} (h : k < 11) : ∃ n, (recInts r)[k]? = some n ∧ ∀ W, (Instr.index 61 (.agg #[.int .i64 r.kind, .int .i64 r.place, .int .i64 r.n, .int .i64 r.try_, .int .i64 r.h.frm, .int .i64 r.h.seq, .int .i64 r.h.to, .int .i64 r.h.till, .int .i64 r.h.bytes, .int .i64 r.h.block, .int .i64 r.s.id]) (.int .i64 (k : Int))).run Tryz.prog W = .ok (.int .i64 n) W := by
  have : k = 0 ∨ k = 1 ∨ k = 2 ∨ k = 3 ∨ k = 4 ∨ k = 5 ∨ k = 6 ∨ k = 7 ∨ k = 8 ∨ k = 9 ∨ k = 10 := by omega
  rcases this with rfl | rfl | rfl | rfl | rfl | rfl | rfl | rfl | rfl | rfl | rfl <;> exact ⟨_, rfl, fun W => by kernel_rfl⟩
theorem idx2 (x y : Value) {k : Nat} (h : k < 2) : ∃ u, [x, y][k]? = some u ∧ ∀ W, (Instr.index 63 (.agg #[x, y]) (.int .i64 (k : Int))).run Tryz.prog W = .ok u W := by
  have : k = 0 ∨ k = 1 := by omega
  rcases this with rfl | rfl <;> exact ⟨_, rfl, fun W => by kernel_rfl⟩
set_option maxRecDepth 100000 in
set_option maxHeartbeats 8000000 in
theorem notePrint_any (w : World) (v : Vars w) (r : Rc) (A : Option Addr) (na ca : Nat) (B : Option Addr) (nb cb : Nat) (hw : r.wf) (hA : Byt w (LT w.heap.size) A na ca r.s.data) (hB : Byt w (LT w.heap.size) B nb cb r.cargo) :
    Calls Tryz.prog 18 #[.agg #[.int .i64 r.kind, .int .i64 r.place, .int .i64 r.n, .int .i64 r.try_, .int .i64 r.h.frm, .int .i64 r.h.seq, .int .i64 r.h.to, .int .i64 r.h.till, .int .i64 r.h.bytes, .int .i64 r.h.block, .int .i64 r.s.id, .slice A na ca, .slice B nb cb]] w fun e w' => e = .returned (.tuple #[sV (printF r).1, .int .i64 (printF r).2]) ∧ Fr w w' := by
  obtain ⟨b, hb⟩ : ∃ b, b = w.heap.size := ⟨_, rfl⟩
  obtain ⟨W1, hW1⟩ : ∃ W1, W1 = w.alloc (.cells #[.int .i64 r.kind, .int .i64 r.place, .int .i64 r.n, .int .i64 r.try_, .int .i64 r.h.frm, .int .i64 r.h.seq, .int .i64 r.h.to, .int .i64 r.h.till, .int .i64 r.h.bytes, .int .i64 r.h.block, .int .i64 r.s.id, .slice A na ca, .slice B nb cb] 33) := ⟨_, rfl⟩
  have HR1 : Hid (W1.heap[b]? = some (.cells #[.int .i64 r.kind, .int .i64 r.place, .int .i64 r.n, .int .i64 r.try_, .int .i64 r.h.frm, .int .i64 r.h.seq, .int .i64 r.h.to, .int .i64 r.h.till, .int .i64 r.h.bytes, .int .i64 r.h.block, .int .i64 r.s.id, .slice A na ca, .slice B nb cb] 33 (0, 0))) := by rw [hW1]; exact heap_new hb
  have HF1 : Hid (Fr w W1) := by rw [hW1]; exact frAlloc _ _
  have hl1 := hA.2.1
  have hl2 := hB.2.1
  obtain ⟨ck, hck⟩ : ∃ ck, ck = recCheck r := ⟨_, rfl⟩
  have CK : Hid (Calls Tryz.prog 27 #[.agg #[.int .i64 r.kind, .int .i64 r.place, .int .i64 r.n, .int .i64 r.try_, .int .i64 r.h.frm, .int .i64 r.h.seq, .int .i64 r.h.to, .int .i64 r.h.till, .int .i64 r.h.bytes, .int .i64 r.h.block, .int .i64 r.s.id, .slice A na ca, .slice B nb cb]] W1 fun e w' => e = .returned (.int .i64 ck) ∧ Fr W1 w') := by rw [hck]; exact noteCheck_any W1 r A na ca B nb cb hw hl1 hl2
  have HCK := Lib.hid hck
  have HW := Lib.hid hw
  have HA := Lib.hid hA
  have HB := Lib.hid hB
  have HV := Lib.hid v
  have hrx := HR1.out
  (obtain ⟨bx0, bx1, bx2, bx3, bx4, bx5, bx6, bx7, bx8, bx9, bx10, bx11, bx12⟩ := box13_ hrx)
  clear hrx hck hw hA hB v
  go_enter Tryz.func18, Tryz.ntmps18
  go_wp2_with fail
  rw [← hW1, ← hb]
  have HBW := Lib.hid hb
  clear hW1 hb
  (with_reducible refine (CK.out).mono ?_)
  rintro e w2 ⟨rfl, hf2⟩
  have HR2 := Lib.hid (blk_go HR1.out hf2)
  have HF2 : Hid (Fr w w2) := HF1.out.trans hf2
  clear hf2 CK bx0 bx1 bx2 bx3 bx4 bx5 bx6 bx7 bx8 bx9 bx10 bx11 bx12 HR1 HF1
  by_cases h1 : ck = 0
  case neg =>
    have t1 : (ck != 0) = true := by simp [h1]
    have hp : Hid (printF r = ([], ck)) := by unfold printF; rw [← HCK.out, if_pos h1]; exact rfl
    clear h1
    go_wp2_with fail
    go_ret2
    rw [hp.out]
    exact ⟨rfl, HF2.out⟩
  case pos =>
  have t1 : (ck != 0) = false := by simp [h1]
  have hrl := recCheck_len (HCK.out.symm.trans h1)
  have hrt := recText_len (HCK.out.symm.trans h1)
  have hp : Hid (printF r = (recText r, 0)) := by unfold printF; rw [← HCK.out, if_neg (by simp [h1])]; exact rfl
  have HRT := Lib.hid hrt
  have hrx := HR2.out
  (obtain ⟨bx0, bx1, bx2, bx3, bx4, bx5, bx6, bx7, bx8, bx9, bx10, bx11, bx12⟩ := box13_ hrx)
  clear h1 hrx hrt
  go_upto_region 6 with fail
  obtain ⟨W3, hW3⟩ : ∃ W3, W3 = w2.alloc (.cells #[.int .i64 r.h.frm, .int .i64 r.h.seq, .int .i64 r.h.to, .int .i64 r.h.till, .int .i64 r.h.bytes, .int .i64 r.h.block] 28) := ⟨_, rfl⟩
  obtain ⟨z, hz⟩ : ∃ z, z = w2.heap.size := ⟨_, rfl⟩
  have hf3 : Fr w2 W3 := by rw [hW3]; exact frAlloc _ _
  have HF3 : Hid (Fr w W3) := HF2.out.trans hf3
  have hrx := blk_go HR2.out hf3
  have hzx : W3.heap[z]? = some (.cells #[.int .i64 r.h.frm, .int .i64 r.h.seq, .int .i64 r.h.to, .int .i64 r.h.till, .int .i64 r.h.bytes, .int .i64 r.h.block] 28 (0, 0)) := by rw [hW3]; exact heap_new hz
  rw [← hW3, ← hz]
  clear hW3 hz hf3 bx0 bx1 bx2 bx3 bx4 bx5 bx6 bx7 bx8 bx9 bx10 bx11 bx12 HF2 HR2
  have HR3 := Lib.hid hrx
  (obtain ⟨bx0, bx1, bx2, bx3, bx4, bx5, bx6, bx7, bx8, bx9, bx10, bx11, bx12⟩ := box13_ hrx)
  (obtain ⟨bz0, bz1, bz2, bz3, bz4, bz5⟩ := box6_ hzx)
  clear hrx hzx
  go_wp2_with fail
  clear bx0 bx1 bx2 bx3 bx4 bx5 bx6 bx7 bx8 bx9 bx10 bx11 bx12 bz0 bz1 bz2 bz3 bz4 bz5 t1
  obtain ⟨WL, hWL⟩ : ∃ WL, WL = (recInts r).map Lib.itoa := ⟨_, rfl⟩
  have hwl : WL.length = 11 := by rw [hWL, List.length_map]; rfl
  have HWL := Lib.hid hWL
  clear hWL
  go_loopw [6, 44] (fun s6 s44 wr => ∃ k : Nat, k ≤ 11 ∧ s44 = .int .i64 k ∧ Hid (Own 1 eStr wr W3.heap.size 9 s6 (WL.take k)) ∧ Hid (Fr W3 wr)) (fun _ i _ => 11 - (intOf i).toNat)
  case atStart => exact ⟨0, Nat.zero_le _, rfl, Own.nil, Below.refl _ _⟩
  case round =>
    obtain ⟨k, hk, rfl, HO, HF⟩ := hrel
    by_cases hlt : k < 11
    · obtain ⟨nk, hnk, hidx⟩ := idx11 r hlt
      have hwn := recInts_wf HW.out nk (List.mem_of_getElem? hnk)
      have IT : Hid (Calls Tryz.prog 28 #[.int .i64 nk] wr fun e w' => e = .returned (sV (Lib.itoa nk)) ∧ Fr wr w') := itoa_any wr (HV.out.go (HF3.out.trans HF.out)) nk hwn
      obtain ⟨LK, hLK⟩ : ∃ LK, LK = WL.take k := ⟨_, rfl⟩
      obtain ⟨TK, hTK⟩ : ∃ TK, TK = Lib.itoa nk := ⟨_, rfl⟩
      rw [← hLK] at HO
      rw [← hTK] at IT
      have hll : LK.length + 1 ≤ 12 := by rw [hLK, List.length_take]; omega
      have hLm : LK.length + 1 ≤ maxLen := by unfold maxLen; omega
      have hLs : (LK.length + 1) * 16 ≤ lim := by unfold lim; omega
      have e1 : LK ++ [TK] = WL.take (k + 1) := by
        rw [List.take_add_one, HWL.out, List.getElem?_map, hnk, hLK, HWL.out, hTK]; rfl
      have HE1 := Lib.hid e1
      clear hnk hwn hll e1 hLK hTK
      go_wp2_with fail
      (with_reducible refine (IT.out).mono ?_)
      rintro e w5 ⟨rfl, hf5⟩
      have HO5 : Hid (Own 1 eStr w5 W3.heap.size 9 u6 LK) := HO.out.fr sStr hf5
      have HF5 : Hid (Fr W3 w5) := HF.out.trans hf5
      have HFw5 : Hid (Fr w w5) := HF3.out.trans HF5.out
      have hyy : Hid (eStr w5 (fun b => b < w5.heap.size ∧ u6.ownBlock ≠ some b) (fun j => [sV TK][j]?) TK) := rfl
      have h63 : W3.heap.size ≤ w5.heap.size := HF5.out.size
      clear hf5 HO HF IT
      go_wp2_with (at_builtin; refine wpList_app1 rfl _ _ 60 rfl W3.heap.size 9 (.string ⟨#[]⟩) 16 Tryz.underlying60 infoStr rfl (by decide) sStr w5 (frAlloc _ _) _ LK rfl HO5.out w5.heap.size [sV TK] 9 (0, 0) rfl (heap_new rfl) rfl (by simp [Value.oneCell']) TK hyy.out hLm hLs W3.heap.size W3 HF5.out (Nat.le_refl _) h63 ?_)
      intro v' w7 HO7 HF7
      rw [HE1.out] at HO7
      go_wp2_with fail
      go_roundw
      case rel => exact ⟨k + 1, by omega, by go_num, HO7, HF7⟩
      case measure => simp [intOf]; omega
    · have hk' : k = 11 := by omega
      have HO' : Hid (Own 1 eStr wr W3.heap.size 9 u6 WL) := by
        have := HO.out
        rw [hk', List.take_of_length_le (by omega)] at this
        exact this
      have hrx := blk_go HR3.out HF.out
      (obtain ⟨bx0, bx1, bx2, bx3, bx4, bx5, bx6, bx7, bx8, bx9, bx10, bx11, bx12⟩ := box13_ hrx)
      clear hrx hk' HO
      go_wp2_with fail
      clear bx0 bx1 bx2 bx3 bx4 bx5 bx6 bx7 bx8 bx9 bx10 bx11 bx12
      obtain ⟨W6, hW6⟩ : ∃ W6, W6 = wr := ⟨_, rfl⟩
      rw [← hW6] at HO' HF
      rw [← hW6]
      clear hW6
      obtain ⟨WD, hWD⟩ : ∃ WD, WD = [45 :: hexE r.s.data, 45 :: hexE r.cargo] := ⟨_, rfl⟩
      have hwd : WD.length = 2 := by rw [hWD]; rfl
      have HWD := Lib.hid hWD
      clear hWD
      go_loopw [6, 59] (fun s6 s59 wx => ∃ k : Nat, k ≤ 2 ∧ s59 = .int .i64 k ∧ Hid (Own 1 eStr wx W3.heap.size 9 s6 (WL ++ WD.take k)) ∧ Hid (Fr W3 wx)) (fun _ i _ => 2 - (intOf i).toNat)
      case atStart => exact ⟨0, Nat.zero_le _, rfl, by simpa using HO', HF⟩
      case round =>
        obtain ⟨k, hk, rfl, HO, HF⟩ := hrel
        clear HO'
        by_cases hlt : k < 2
        · obtain ⟨Ak, nk, ck', dk, hidx, hbk, hnk, hdk⟩ : ∃ Ak nk ck' dk, (∀ W, (Instr.index 63 (.agg #[.slice A na ca, .slice B nb cb]) (.int .i64 (k : Int))).run Tryz.prog W = .ok (.slice Ak nk ck') W) ∧ Sl 1 eByte w (LT w.heap.size) Ak nk dk ∧ nk ≤ 1000000 ∧ WD[k]? = some (45 :: hexE dk) := by
            rw [HWD.out]
            have : k = 0 ∨ k = 1 := by omega
            rcases this with rfl | rfl
            · exact ⟨A, na, ca, r.s.data, fun W => by kernel_rfl, HA.out.2, by omega, rfl⟩
            · exact ⟨B, nb, cb, r.cargo, fun W => by kernel_rfl, HB.out.2, by omega, rfl⟩
          have DG : Hid (Calls Tryz.prog 29 #[.slice Ak nk ck'] wr fun e w' => e = .returned (sV (hexE dk)) ∧ Fr wr w') := noteDigits_any wr Ak nk ck' dk (hbk.go sByte (HF3.out.trans HF.out)) hnk
          obtain ⟨LK, hLK⟩ : ∃ LK, LK = WL ++ WD.take k := ⟨_, rfl⟩
          obtain ⟨TK, hTK⟩ : ∃ TK, TK = hexE dk := ⟨_, rfl⟩
          rw [← hLK] at HO
          rw [← hTK] at DG hdk
          have hll : LK.length + 1 ≤ 14 := by rw [hLK, List.length_append, List.length_take]; omega
          have hLm : LK.length + 1 ≤ maxLen := by unfold maxLen; omega
          have hLs : (LK.length + 1) * 16 ≤ lim := by unfold lim; omega
          have e1 : LK ++ [45 :: TK] = WL ++ WD.take (k + 1) := by
            rw [List.take_add_one, hdk, hLK, List.append_assoc]; rfl
          have hcat : (9223372036854775807 < 1 + TK.length) = False := by
            have h1 := hbk.1
            have h2 := hexE_length dk
            rw [← hTK] at h2
            exact eq_false (by omega)
          have HE1 := Lib.hid e1
          clear hbk hnk hdk hll e1 hLK hTK
          go_wp2_with fail
          (with_reducible refine (DG.out).mono ?_)
          rintro e w5 ⟨rfl, hf5⟩
          have HO5 : Hid (Own 1 eStr w5 W3.heap.size 9 u6 LK) := HO.out.fr sStr hf5
          have HF5 : Hid (Fr W3 w5) := HF.out.trans hf5
          have hyy : Hid (eStr w5 (fun b => b < w5.heap.size ∧ u6.ownBlock ≠ some b) (fun j => [Value.string (⟨#[45]⟩ ++ ⟨TK.toArray⟩)][j]?) (45 :: TK)) := by
            show some _ = some _
            rw [str_cons]
          have h63 : W3.heap.size ≤ w5.heap.size := HF5.out.size
          clear hf5 HO HF DG
          go_wp2_with (at_builtin; refine wpList_app1 rfl _ _ 60 rfl W3.heap.size 9 (.string ⟨#[]⟩) 16 Tryz.underlying60 infoStr rfl (by decide) sStr w5 (frAlloc _ _) u6 LK rfl HO5.out w5.heap.size [Value.string (⟨#[45]⟩ ++ ⟨TK.toArray⟩)] 9 (0, 0) rfl (heap_new rfl) rfl (by simp [Value.oneCell']) (45 :: TK) hyy.out hLm hLs W3.heap.size W3 HF5.out (Nat.le_refl _) h63 ?_)
          intro v' w7 HO7 HF7
          rw [HE1.out] at HO7
          go_wp2_with fail
          go_roundw
          case rel => exact ⟨k + 1, by omega, by go_num, HO7, HF7⟩
          case measure => simp [intOf]; omega
        · have hk' : k = 2 := by omega
          have ew : WL ++ WD.take k = recWords r := by rw [hk', List.take_of_length_le (by omega), HWL.out, HWD.out]; rfl
          have HO2 := HO.out
          rw [ew] at HO2
          have hrw : (recWords r).length = 13 := rfl
          obtain ⟨A5, c5, e5, ⟨hc5, hm5⟩, hs5⟩ := HO2.slC sStr (by decide)
          have hsp := HO2.spot e5
          have JN : Hid (Calls Tryz.prog 30 #[.slice A5 13 c5, sV [32]] wr fun e w' => e = .returned (sV (recText r)) ∧ Fr wr w') := join_any wr A5 13 c5 (recWords r) hs5 (by omega) (by omega) (by omega) hsp HRT.out
          rw [hrw] at e5
          subst e5
          clear hk' ew HO HO2 hrw hc5 hm5 hs5 hsp
          go_wp2_with fail
          (with_reducible refine (JN.out).mono ?_)
          rintro e w8 ⟨rfl, hf8⟩
          have HF8 : Hid (Fr w w8) := (HF3.out.trans HF.out).trans hf8
          clear hf8 JN
          go_wp2_with fail
          go_ret2
          rw [hp.out]
          exact ⟨rfl, HF8.out⟩
end Go.Proofs.YtbincgbgeccccaaGreatDoor
namespace Go.Proofs.YtbincgbgeccccaaGreatDoor
open Go.RowKit
attribute [local irreducible] wpList

set_option maxRecDepth 100000 in
set_option maxHeartbeats 8000000 in
theorem diskPut_any (w : World) (v : Vars w) (d : Dk) (r : Rc) (A : Option Addr) (n c : Nat) (B : Option Addr) (m e : Nat) (Ar : Option Addr) (na ca : Nat) (Br : Option Addr) (nb cb : Nat) (hA : Byt w (LT w.heap.size) A n c d.safe) (hB : Byt w (LT w.heap.size) B m e d.wait)
    (hw : r.wf) (hAr : Byt w (LT w.heap.size) Ar na ca r.s.data) (hBr : Byt w (LT w.heap.size) Br nb cb r.cargo) :
    Calls Tryz.prog 4 #[.agg #[.slice A n c, .slice B m e], .agg #[.int .i64 r.kind, .int .i64 r.place, .int .i64 r.n, .int .i64 r.try_, .int .i64 r.h.frm, .int .i64 r.h.seq, .int .i64 r.h.to, .int .i64 r.h.till, .int .i64 r.h.bytes, .int .i64 r.h.block, .int .i64 r.s.id, .slice Ar na ca, .slice Br nb cb]] w (KPost w (putF d r)) := by
  obtain ⟨X, hX⟩ : ∃ X, X = putF d r := ⟨_, rfl⟩
  rw [← hX]
  have hl := hA.2.1
  have hl2 := hB.2.1
  obtain ⟨W1, hW1⟩ : ∃ W1, W1 = ((w.alloc (.cells #[.slice A n c, .slice B m e] 24)).alloc (.cells #[.int .i64 r.kind, .int .i64 r.place, .int .i64 r.n, .int .i64 r.try_, .int .i64 r.h.frm, .int .i64 r.h.seq, .int .i64 r.h.to, .int .i64 r.h.till, .int .i64 r.h.bytes, .int .i64 r.h.block, .int .i64 r.s.id, .slice Ar na ca, .slice Br nb cb] 33)).alloc (.cells #[.slice none 0 0, .slice none 0 0] 24) := ⟨_, rfl⟩
  obtain ⟨p, hp⟩ : ∃ p, p = w.heap.size := ⟨_, rfl⟩
  obtain ⟨g, hg⟩ : ∃ g, g = w.heap.size + 1 := ⟨_, rfl⟩
  obtain ⟨q, hq⟩ : ∃ q, q = w.heap.size + 1 + 1 := ⟨_, rfl⟩
  have hp1 : W1.heap[p]? = some (.cells #[.slice A n c, .slice B m e] 24 (0, 0)) := by rw [hW1]; exact heap_old (heap_old (heap_new hp))
  have hg1 : W1.heap[g]? = some (.cells #[.int .i64 r.kind, .int .i64 r.place, .int .i64 r.n, .int .i64 r.try_, .int .i64 r.h.frm, .int .i64 r.h.seq, .int .i64 r.h.to, .int .i64 r.h.till, .int .i64 r.h.bytes, .int .i64 r.h.block, .int .i64 r.s.id, .slice Ar na ca, .slice Br nb cb] 33 (0, 0)) := by rw [hW1]; exact heap_old (heap_new (by rw [hg]; simp))
  have hq1 : W1.heap[q]? = some (.cells #[.slice none 0 0, .slice none 0 0] 24 (0, 0)) := by rw [hW1]; exact heap_new (by rw [hq]; simp)
  have HF1 : Hid (Fr w W1) := by rw [hW1]; exact ((frAlloc _ _).trans (frAlloc _ _)).trans (frAlloc _ _)
  have HQW := Lib.hid hq
  have HP1 := Lib.hid hp1
  have HG1 := Lib.hid hg1
  have HQ1 := Lib.hid hq1
  obtain ⟨ck, hck⟩ : ∃ ck, ck = diskCheck d := ⟨_, rfl⟩
  have CK : Hid (Calls Tryz.prog 10 #[.agg #[.slice A n c, .slice B m e]] W1 fun r w' => r = .returned (.int .i64 ck) ∧ Fr W1 w') := by rw [hck]; exact diskCheck_any W1 (v.go HF1.out) d A n c B m e (hA.go HF1.out) (hB.go HF1.out)
  have HV := Lib.hid v
  have HA := Lib.hid hA
  have HB := Lib.hid hB
  have HAr := Lib.hid hAr
  have HBr := Lib.hid hBr
  have HW := Lib.hid hw
  have HX := Lib.hid hX
  have HCK := Lib.hid hck
  (obtain ⟨bp0, bp1⟩ := box2_ hp1)
  clear hp1 hq1 hg1 hA hB hAr hBr hw hX hck v
  go_enter Tryz.func4, Tryz.ntmps4
  go_upto_region 1 with fail
  rw [← hW1, ← hq, ← hg, ← hp]
  have NE : q ≠ p := by omega
  clear hW1 hp hq hg
  go_wp2_with fail
  (with_reducible refine (CK.out).mono ?_)
  rintro rr w2 ⟨rfl, hf2⟩
  have HF2 : Hid (Fr w w2) := HF1.out.trans hf2
  have HP2 := Lib.hid (blk_go HP1.out hf2)
  have HG2 := Lib.hid (blk_go HG1.out hf2)
  have HQ2 := Lib.hid (blk_go HQ1.out hf2)
  clear hf2 CK HF1 HP1 HQ1 HG1 bp0 bp1
  by_cases h1 : ck = 0
  case neg =>
    have t1 : (ck != 0) = true := by simp [h1]
    have hx : Hid (X = (Dk.zero, ck)) := HX.out.trans (by unfold putF; rw [← HCK.out, if_pos h1])
    have hqx := HQ2.out
    (obtain ⟨bq0, bq1⟩ := box2_ hqx)
    have y0 := blk_free (i := 0) hqx
    have y1 := blk_free (i := 1) hqx
    have lq := (Array.getElem?_eq_some_iff.1 hqx).1
    clear h1 hqx
    go_wp2_with fail
    refine bodyPost_ret (v := .tuple #[.agg #[.slice none 0 0, .slice none 0 0], .int .i64 ck]) ?_ rfl (kpost_err hx.out (bel2_ HF2.out (by have := HQW.out; omega)))
    simp [results, Tryz.results4, go_sem, bq0, bq1, lq]
  case pos =>
  have t1 : (ck != 0) = false := by simp [h1]
  have HX2 : Hid (X = if recCheck r ≠ 0 then (Dk.zero, recCheck r) else if 60000 < d.safe.length + d.wait.length + (recText r).length + 1 then (Dk.zero, 2) else (⟨d.safe, d.wait ++ recText r ++ [10]⟩, 0)) := HX.out.trans (by unfold putF; rw [← HCK.out, if_neg (by simp [h1])])
  have hk := diskCheck_ok (HCK.out.symm.trans h1)
  have hsz := hk.size
  obtain ⟨rk, hrk⟩ : ∃ rk, rk = recCheck r := ⟨_, rfl⟩
  obtain ⟨ps, hps⟩ : ∃ ps, ps = (printF r).1 := ⟨_, rfl⟩
  have hpr : printF r = (ps, rk) := by
    rw [hps]
    unfold printF
    split
    · rw [← hrk]
    · rename_i h0; have h0 : recCheck r = 0 := by simpa using h0
      rw [hrk, h0]
  have PR : Hid (Calls Tryz.prog 18 #[.agg #[.int .i64 r.kind, .int .i64 r.place, .int .i64 r.n, .int .i64 r.try_, .int .i64 r.h.frm, .int .i64 r.h.seq, .int .i64 r.h.to, .int .i64 r.h.till, .int .i64 r.h.bytes, .int .i64 r.h.block, .int .i64 r.s.id, .slice Ar na ca, .slice Br nb cb]] w2 fun e w' => e = .returned (.tuple #[sV ps, .int .i64 rk]) ∧ Fr w2 w') := by
    have := notePrint_any w2 (HV.out.go HF2.out) r Ar na ca Br nb cb HW.out (HAr.out.go HF2.out) (HBr.out.go HF2.out)
    rw [hpr] at this
    exact this
  rw [← hrk] at HX2
  have HRK := Lib.hid hrk
  have HPS := Lib.hid hps
  have hgx := HG2.out
  (obtain ⟨bx0, bx1, bx2, bx3, bx4, bx5, bx6, bx7, bx8, bx9, bx10, bx11, bx12⟩ := box13_ hgx)
  clear h1 HX HCK hk hpr hgx hrk hps
  go_wp2_with fail
  (with_reducible refine (PR.out).mono ?_)
  rintro rr w4 ⟨rfl, hf4⟩
  have HF4 : Hid (Fr w w4) := HF2.out.trans hf4
  have HP4 := Lib.hid (blk_go HP2.out hf4)
  have HQ4 := Lib.hid (blk_go HQ2.out hf4)
  clear hf4 PR HF2 HP2 HQ2 HG2 bx0 bx1 bx2 bx3 bx4 bx5 bx6 bx7 bx8 bx9 bx10 bx11 bx12 t1
  have hpx := HP4.out
  have hqx := HQ4.out
  (obtain ⟨bp0, bp1⟩ := box2_ hpx)
  (obtain ⟨bq0, bq1⟩ := box2_ hqx)
  have y0 := blk_free (i := 0) hqx
  have y1 := blk_free (i := 1) hqx
  have lq := (Array.getElem?_eq_some_iff.1 hqx).1
  by_cases h2 : rk = 0
  case neg =>
    have t1 : (rk != 0) = true := by simp [h2]
    have hx : Hid (X = (Dk.zero, rk)) := HX2.out.trans (if_pos h2)
    clear h2 hqx hpx hsz HX2
    go_wp2_with fail
    refine bodyPost_ret (v := .tuple #[.agg #[.slice none 0 0, .slice none 0 0], .int .i64 rk]) ?_ rfl (kpost_err hx.out (bel2_ HF4.out (by have := HQW.out; omega)))
    simp [results, Tryz.results4, go_sem, bq0, bq1, lq]
  case pos =>
  have t1 : (rk != 0) = false := by simp [h2]
  have hpt : ps = recText r := by
    rw [HPS.out]
    unfold printF
    rw [if_neg (by rw [← HRK.out, h2]; simp)]
  have hpl : ps.length ≤ 10000 := by rw [hpt]; exact recText_len4 (HRK.out.symm.trans h2)
  obtain ⟨k, hk⟩ : ∃ k, k = ps.length := ⟨_, rfl⟩
  have HX3 : Hid (X = if 60000 < n + m + k + 1 then (Dk.zero, 2) else (⟨d.safe, d.wait ++ ps ++ [10]⟩, 0)) := HX2.out.trans (by rw [if_neg (by simp [h2]), hk, hpt, hl, hl2])
  rw [hl, hl2] at hsz
  rw [← hk] at hpl
  have hKs := Lib.hid hk
  clear h2 hpt HX2 HPS HRK
  have hw1 : IntKind.i64.wrap ((k : Int) + 1) = (k : Int) + 1 := by rw [IntKind.wrap_i64]; omega
  have hw2 : IntKind.i64.wrap ((60000 : Int) - (n : Int)) = (60000 : Int) - (n : Int) := by rw [IntKind.wrap_i64]; omega
  have hw3 : IntKind.i64.wrap ((60000 : Int) - (n : Int) - (m : Int)) = (60000 : Int) - (n : Int) - (m : Int) := by rw [IntKind.wrap_i64]; omega
  by_cases h3 : 60000 < n + m + k + 1
  · have t3 : decide ((60000 : Int) - (n : Int) - (m : Int) < (k : Int) + 1) = true := by simp; omega
    have hx : Hid (X = (Dk.zero, 2)) := HX3.out.trans (if_pos h3)
    rw [hk] at hw1 t3
    clear h3 hqx hpx HX3 hsz hpl hk
    go_wp2_with fail
    refine bodyPost_ret (v := .tuple #[.agg #[.slice none 0 0, .slice none 0 0], .int .i64 2]) ?_ rfl (kpost_err hx.out (bel2_ HF4.out (by have := HQW.out; omega)))
    simp [results, Tryz.results4, go_sem, bq0, bq1, lq]
  have t3 : decide ((60000 : Int) - (n : Int) - (m : Int) < (k : Int) + 1) = false := by simp; omega
  have hx : Hid (X = (⟨d.safe, d.wait ++ ps ++ [10]⟩, 0)) := HX3.out.trans (if_neg h3)
  have hlen : n + m + k + 1 ≤ 60000 := by omega
  have HLEN := Lib.hid hlen
  rw [hk] at hw1 t3
  clear h3 hqx hpx HX3 hsz hpl hk bq0 bq1 y0 y1 lq hlen
  go_wp2_with fail
  have hSC : Hid (∀ w', Fr w4 w' → w'.cell? ⟨p, 0, none⟩ = some (.slice A n c) ∧ w'.cell? ⟨p, 1, none⟩ = some (.slice B m e)) := fun w' hf => ⟨(hf.cell (World.block_lt_of_cell? w4 _ bp0)).trans bp0, (hf.cell (World.block_lt_of_cell? w4 _ bp1)).trans bp1⟩
  have C1 : Hid (∀ W, Fr w W → Calls Tryz.prog 19 #[.slice A n c] W fun r w' => ∃ u, r = .returned u ∧ Own 1 eByte w' W.heap.size 5 u d.safe ∧ Fr W w') := fun W hf => cloneBytes_any W A n c d.safe (HA.out.2.go sByte hf) HA.out.1.1
  have C2 : Hid (∀ W, Fr w W → Calls Tryz.prog 19 #[.slice B m e] W fun r w' => ∃ u, r = .returned u ∧ Own 1 eByte w' W.heap.size 5 u d.wait ∧ Fr W w') := fun W hf => cloneBytes_any W B m e d.wait (HB.out.2.go sByte hf) HB.out.1.1
  have hpw : d.wait.length + ps.length ≤ lim := by have := HLEN.out; have := hKs.out; unfold lim; omega
  have hpm : (d.wait ++ ps).length + 1 ≤ maxLen := by rw [List.length_append]; have := HLEN.out; have := hKs.out; unfold maxLen; omega
  have hpb : ((d.wait ++ ps).length + 1) * 1 ≤ lim := by rw [List.length_append]; have := HLEN.out; have := hKs.out; unfold lim; omega
  have H0 : Fr w4 w4.drew := (Below.refl _ _).drew
  refine held_begin (n := 13) (bs := #[false, false, false, false, false, false, false, false, false, false, false, false, false]) rfl rfl (by kernel_rfl) (S := fun w' => w'.cell? ⟨p, 0, none⟩ = some (.slice A n c) ∧ w'.cell? ⟨p, 1, none⟩ = some (.slice B m e)) (hSC.out _ (Below.refl _ _).drew) (fun hHeld => ?_)
  ((first | refine held_sk (i := 0) ?_ | refine held_tk (i := 0) ?_); (first | refine held_sk (i := 1) ?_ | refine held_tk (i := 1) ?_); (first | refine held_sk (i := 3) ?_ | refine held_tk (i := 3) ?_); (first | refine held_sk (i := 4) ?_ | refine held_tk (i := 4) ?_); (first | refine held_sk (i := 6) ?_ | refine held_tk (i := 6) ?_))
  refine held_two (i := 2) (j := 8) rfl rfl (by kernel_rfl) (fun K hK => ?_) (fun K hK => ?_)
  · skip
    go_simp
    go_at_call 19
    (with_reducible refine (C1.out _ (Fr.trans HF4.out H0)).mono ?_)
    rintro rr w5 ⟨u1, rfl, ho1, hf5⟩
    obtain ⟨A5, c5, rfl, hb5⟩ := ho1.byt (by rw [hl]; have := HA.out.1.1; omega)
    rw [hl] at hb5
    rw [hl]
    have hf45 : Fr w4 w5 := Fr.trans (H0) hf5
    have h45 := Below.size (H0)
    have HB5 : Hid (Byt w5 (NW w4.heap.size w5.heap.size) A5 n c5 d.safe) := ⟨hb5.1, hb5.2.more sByte fun x hx => ⟨Nat.le_trans h45 hx.1, hx.2⟩⟩
    have HF5 := Lib.hid hf5
    clear ho1 hf5 hb5 h45
    (refine held_back hK (a' := ?hA5) (l' := ?hL5) ?ha5 ?hl5 (hSC.out _ hf45) (fun hHeld => ?hh5); (case ha5 => first | with_reducible rfl | (simp only [Act.put, hq1, hq2, hq3, Option.isNone, Bool.not_true, Bool.not_false]; (try with_reducible rfl))); (case hl5 => (simp only [Act.put, hq1, hq2, hq3, Option.isNone, Bool.not_true, Bool.not_false]; (try with_reducible rfl))); clear hK K)
    refine held_two (i := 5) (j := 8) rfl rfl (by kernel_rfl) (fun K hK => ?_) (fun K hK => ?_)
    · skip
      go_simp
      go_at_call 19
      (with_reducible refine (C2.out _ (Fr.trans HF4.out hf45)).mono ?_)
      rintro rr w6 ⟨u2, rfl, ho2, hf6⟩
      have hf46 : Fr w4 w6 := Fr.trans (hf45) hf6
      have HO6 := Lib.hid ho2
      have HF6 := Lib.hid hf6
      clear ho2 hf6
      (refine held_back hK (a' := ?hA6) (l' := ?hL6) ?ha6 ?hl6 (hSC.out _ hf46) (fun hHeld => ?hh6); (case ha6 => first | with_reducible rfl | (simp only [Act.put, hq1, hq2, hq3, Option.isNone, Bool.not_true, Bool.not_false]; (try with_reducible rfl))); (case hl6 => (simp only [Act.put, hq1, hq2, hq3, Option.isNone, Bool.not_true, Bool.not_false]; (try with_reducible rfl))); clear hK K)
      refine held_two (i := 7) (j := 8) rfl rfl (by kernel_rfl) (fun K hK => ?_) (fun K hK => ?_)
      · have hf4c := hf45
        refine step_appStr rfl (.tmp 42) (.tmp 43) 22 9 rfl (Array.size (World.heap w5)) 5 Tryz.underlying22 Tryz.underlying9 infoByte _ d.wait rfl (HO6.out) ps rfl hpw (Below.size (HF6.out)) (Array.size (World.heap w5)) w5 (HF6.out) (Nat.le_refl _) ?_
        intro v7 w7 HO7 HF7 HK7
        (refine held_back hK (a' := ?hA7) (l' := ?hL7) ?ha7 ?hl7 (hSC.out _ (Fr.trans (hf45) HF7.out)) (fun hHeld => ?hh7); (case ha7 => first | with_reducible rfl | (simp only [Act.put, hq1, hq2, hq3, Option.isNone, Bool.not_true, Bool.not_false]; (try with_reducible rfl))); (case hl7 => (simp only [Act.put, hq1, hq2, hq3, Option.isNone, Bool.not_true, Bool.not_false]; (try with_reducible rfl))); clear hK K)
        refine held_one (i := 8) rfl (by kernel_rfl) (fun K hK => ?_)
        go_simp
        obtain ⟨w8, hw8⟩ : ∃ W : World, W = (World.alloc w7 (.cells #[.int .u8 10] 5)) := ⟨_, rfl⟩
        obtain ⟨y8, hy8⟩ : ∃ y : Nat, y = Array.size (World.heap w7) := ⟨_, rfl⟩
        rw [← hw8, ← hy8]
        have hk8 : w8.heap[y8]? = some (.cells #[.int .u8 10] 5 (0, 0)) := by rw [hw8]; first | exact heap_new hy8 | exact heap_d (heap_new hy8)
        have hf8 : Fr w7 w8 := by rw [hw8]; first | exact frAlloc _ _ | exact (frAlloc _ _).drew
        have hf48 : Fr w4 w8 := Fr.trans (Fr.trans hf45 HF7.out) hf8
        have HK8 := Lib.hid hk8
        have HF8 := Lib.hid hf8
        have HY8 := Lib.hid hy8
        clear hw8 hk8 hf8 hy8
        (refine held_back hK (a' := ?hA8) (l' := ?hL8) ?ha8 ?hl8 (hSC.out _ hf48) (fun hHeld => ?hh8); (case ha8 => first | with_reducible rfl | (simp only [Act.put, hq1, hq2, hq3, Option.isNone, Bool.not_true, Bool.not_false]; (try with_reducible rfl))); (case hl8 => (simp only [Act.put, hq1, hq2, hq3, Option.isNone, Bool.not_true, Bool.not_false]; (try with_reducible rfl))); clear hK K)
        refine held_one (i := 9) rfl (by kernel_rfl) (fun K hK => ?_)
        refine step_app1 rfl (.tmp 44) (.tmp 45) 22 rfl (Array.size (World.heap w5)) 5 (bV 0) 1 Tryz.underlying22 infoByte rfl (by decide) sByte _ (Below.refl _ _) v7 (d.wait ++ ps) rfl (HO7.out.fr sByte HF8.out) y8 [.int .u8 10] 5 (0, 0) rfl (HK8.out) rfl (by simp [Value.oneCell']) 10 rfl hpm hpb (Array.size (World.heap w5)) w5 (Fr.trans HF7.out HF8.out) (Nat.le_refl _) (Below.size (Fr.trans HF7.out HF8.out)) ?_
        intro v9 w9 HO9 HF9
        have hf49 : Fr w4 w9 := Fr.trans hf4c HF9.out
        obtain ⟨L, hL⟩ : ∃ L, L = d.wait ++ ps ++ [10] := ⟨_, rfl⟩
        have hLL : L.length ≤ lim := by rw [hL]; have := HLEN.out; have := hKs.out; simp only [List.length_append, List.length_cons, List.length_nil]; unfold lim; omega
        rw [← hL] at HO9 hx
        clear hL
        obtain ⟨A9, c9, rfl, hb9⟩ := HO9.out.byt hLL
        obtain ⟨N9, hN9⟩ : ∃ N9, N9 = L.length := ⟨_, rfl⟩
        rw [← hN9] at hb9 ⊢
        have h4c := Below.size hf4c
        have HB9 : Hid (Byt w9 (NW w4.heap.size w9.heap.size) A9 N9 c9 L) := ⟨hb9.1, hb9.2.more sByte fun x hx => ⟨Nat.le_trans h4c hx.1, hx.2⟩⟩
        have HB5' : Hid (Byt w9 (NW w4.heap.size w9.heap.size) A5 n c5 d.safe) := ⟨(HB5.out).1, ((HB5.out).2.keep sByte fun x hx => HF9.out.cell hx.2).more sByte fun x hx => ⟨hx.1, Nat.lt_of_lt_of_le hx.2 HF9.out.size⟩⟩
        have HF9' : Hid (Fr w w9) := HF4.out.trans hf49
        have hqx := blk_go HQ4.out hf49
        have hqw : q < w4.heap.size := (Array.getElem?_eq_some_iff.1 HQ4.out).1
        clear hb9 HO9 hLL hN9 h4c
        (refine held_back hK (a' := ?hA9) (l' := ?hL9) ?ha9 ?hl9 (hSC.out _ hf49) (fun hHeld => ?hh9); (case ha9 => first | with_reducible rfl | (simp only [Act.put, hq1, hq2, hq3, Option.isNone, Bool.not_true, Bool.not_false]; (try with_reducible rfl))); (case hl9 => (simp only [Act.put, hq1, hq2, hq3, Option.isNone, Bool.not_true, Bool.not_false]; (try with_reducible rfl))); clear hK K)
        ((first | refine held_sk (i := 10) ?_ | refine held_tk (i := 10) ?_))
        (obtain ⟨bq0, bq1⟩ := box2_ hqx)
        have y0 := blk_free (i := 0) hqx
        have y1 := blk_free (i := 1) hqx
        have lq := (Array.getElem?_eq_some_iff.1 hqx).1
        refine held_one (i := 11) rfl (by kernel_rfl) (fun K hK => ?_)
        go_simp
        (refine held_back hK (a' := ?hA10) (l' := ?hL10) ?ha10 ?hl10 (⟨(set2_far NE).trans (hSC.out _ hf49).1, (set2_far NE).trans (hSC.out _ hf49).2⟩) (fun hHeld => ?hh10); (case ha10 => first | with_reducible rfl | (simp only [Act.put, hq1, hq2, hq3, Option.isNone, Bool.not_true, Bool.not_false]; (try with_reducible rfl))); (case hl10 => (simp only [Act.put, hq1, hq2, hq3, Option.isNone, Bool.not_true, Bool.not_false]; (try with_reducible rfl))); clear hK K)
        ((first | refine held_sk (i := 12) ?_ | refine held_tk (i := 12) ?_))
        refine wpAnyH_done (by kernel_rfl) ?_ _
        have KEY : Hid (∀ W9, Chg (fun b => b = q) w9 W9 → Fr w W9 → KPost w X (.returned (.tuple #[.agg #[.slice A5 n c5, .slice A9 N9 c9], .int .i64 0])) W9) := by
          intro W9 hC hF
          have hs9 := hC.size
          have h2w := HF4.out.size
          have hkeep : ∀ {A : Option Addr} {n c : Nat} {l : List UInt8}, Byt w9 (NW w4.heap.size w9.heap.size) A n c l → Byt W9 (NW w.heap.size W9.heap.size) A n c l := fun h =>
            ⟨h.1, (h.2.chg sByte hC fun b hb => ⟨hb.2, fun e => by have e : b = q := e; have := hb.1; omega⟩).more sByte fun b hb => ⟨by have := hb.1; omega, by have := hb.2; omega⟩⟩
          rw [hx.out]
          exact ⟨A5, n, c5, A9, N9, c9, rfl, hkeep HB5'.out, hkeep HB9.out, hF⟩
        clear hqx
        go_wp2_with fail
        refine bodyPost_ret (v := .tuple #[.agg #[.slice A5 n c5, .slice A9 N9 c9], .int .i64 0]) ?_ rfl (KEY.out _ (Chg.of (grw2_ ⟨rfl, rfl, rfl, Nat.le_refl _, fun _ _ _ => rfl⟩)) (bel2_ HF9'.out (by have := HQW.out; omega)))
        simp [results, Tryz.results4, go_sem, bq0, bq1, lq]
      · have hf4c := hf45
        go_simp
        obtain ⟨w8, hw8⟩ : ∃ W : World, W = (World.alloc w6 (.cells #[.int .u8 10] 5)) := ⟨_, rfl⟩
        obtain ⟨y8, hy8⟩ : ∃ y : Nat, y = Array.size (World.heap w6) := ⟨_, rfl⟩
        rw [← hw8, ← hy8]
        have hk8 : w8.heap[y8]? = some (.cells #[.int .u8 10] 5 (0, 0)) := by rw [hw8]; first | exact heap_new hy8 | exact heap_d (heap_new hy8)
        have hf8 : Fr w6 w8 := by rw [hw8]; first | exact frAlloc _ _ | exact (frAlloc _ _).drew
        have hf48 : Fr w4 w8 := Fr.trans (hf46) hf8
        have HK8 := Lib.hid hk8
        have HF8 := Lib.hid hf8
        have HY8 := Lib.hid hy8
        clear hw8 hk8 hf8 hy8
        (refine held_back hK (a' := ?hA11) (l' := ?hL11) ?ha11 ?hl11 (hSC.out _ hf48) (fun hHeld => ?hh11); (case ha11 => first | with_reducible rfl | (simp only [Act.put, hq1, hq2, hq3, Option.isNone, Bool.not_true, Bool.not_false]; (try with_reducible rfl))); (case hl11 => (simp only [Act.put, hq1, hq2, hq3, Option.isNone, Bool.not_true, Bool.not_false]; (try with_reducible rfl))); clear hK K)
        refine held_one (i := 7) rfl (by kernel_rfl) (fun K hK => ?_)
        refine step_appStr rfl (.tmp 42) (.tmp 43) 22 9 rfl (Array.size (World.heap w5)) 5 Tryz.underlying22 Tryz.underlying9 infoByte _ d.wait rfl (HO6.out.fr sByte HF8.out) ps rfl hpw (Below.size (Fr.trans HF6.out HF8.out)) (Array.size (World.heap w5)) w5 (Fr.trans HF6.out HF8.out) (Nat.le_refl _) ?_
        intro v7 w7 HO7 HF7 HK7
        (refine held_back hK (a' := ?hA12) (l' := ?hL12) ?ha12 ?hl12 (hSC.out _ (Fr.trans (hf45) HF7.out)) (fun hHeld => ?hh12); (case ha12 => first | with_reducible rfl | (simp only [Act.put, hq1, hq2, hq3, Option.isNone, Bool.not_true, Bool.not_false]; (try with_reducible rfl))); (case hl12 => (simp only [Act.put, hq1, hq2, hq3, Option.isNone, Bool.not_true, Bool.not_false]; (try with_reducible rfl))); clear hK K)
        refine held_one (i := 9) rfl (by kernel_rfl) (fun K hK => ?_)
        have hk9 := HK7.out _ _ HK8.out fun e => by
          obtain ⟨cs, ho, _⟩ := HO6.out
          have h1 := (ho.lt _ e).2
          have h2 := HY8.out
          omega
        refine step_app1 rfl (.tmp 44) (.tmp 45) 22 rfl (Array.size (World.heap w5)) 5 (bV 0) 1 Tryz.underlying22 infoByte rfl (by decide) sByte _ (Below.refl _ _) v7 (d.wait ++ ps) rfl (HO7.out) y8 [.int .u8 10] 5 (0, 0) rfl (hk9) rfl (by simp [Value.oneCell']) 10 rfl hpm hpb (Array.size (World.heap w5)) w5 (HF7.out) (Nat.le_refl _) (Below.size (HF7.out)) ?_
        intro v9 w9 HO9 HF9
        have hf49 : Fr w4 w9 := Fr.trans hf4c HF9.out
        obtain ⟨L, hL⟩ : ∃ L, L = d.wait ++ ps ++ [10] := ⟨_, rfl⟩
        have hLL : L.length ≤ lim := by rw [hL]; have := HLEN.out; have := hKs.out; simp only [List.length_append, List.length_cons, List.length_nil]; unfold lim; omega
        rw [← hL] at HO9 hx
        clear hL
        obtain ⟨A9, c9, rfl, hb9⟩ := HO9.out.byt hLL
        obtain ⟨N9, hN9⟩ : ∃ N9, N9 = L.length := ⟨_, rfl⟩
        rw [← hN9] at hb9 ⊢
        have h4c := Below.size hf4c
        have HB9 : Hid (Byt w9 (NW w4.heap.size w9.heap.size) A9 N9 c9 L) := ⟨hb9.1, hb9.2.more sByte fun x hx => ⟨Nat.le_trans h4c hx.1, hx.2⟩⟩
        have HB5' : Hid (Byt w9 (NW w4.heap.size w9.heap.size) A5 n c5 d.safe) := ⟨(HB5.out).1, ((HB5.out).2.keep sByte fun x hx => HF9.out.cell hx.2).more sByte fun x hx => ⟨hx.1, Nat.lt_of_lt_of_le hx.2 HF9.out.size⟩⟩
        have HF9' : Hid (Fr w w9) := HF4.out.trans hf49
        have hqx := blk_go HQ4.out hf49
        have hqw : q < w4.heap.size := (Array.getElem?_eq_some_iff.1 HQ4.out).1
        clear hb9 HO9 hLL hN9 h4c
        (refine held_back hK (a' := ?hA13) (l' := ?hL13) ?ha13 ?hl13 (hSC.out _ hf49) (fun hHeld => ?hh13); (case ha13 => first | with_reducible rfl | (simp only [Act.put, hq1, hq2, hq3, Option.isNone, Bool.not_true, Bool.not_false]; (try with_reducible rfl))); (case hl13 => (simp only [Act.put, hq1, hq2, hq3, Option.isNone, Bool.not_true, Bool.not_false]; (try with_reducible rfl))); clear hK K)
        ((first | refine held_sk (i := 10) ?_ | refine held_tk (i := 10) ?_))
        (obtain ⟨bq0, bq1⟩ := box2_ hqx)
        have y0 := blk_free (i := 0) hqx
        have y1 := blk_free (i := 1) hqx
        have lq := (Array.getElem?_eq_some_iff.1 hqx).1
        refine held_one (i := 11) rfl (by kernel_rfl) (fun K hK => ?_)
        go_simp
        (refine held_back hK (a' := ?hA14) (l' := ?hL14) ?ha14 ?hl14 (⟨(set2_far NE).trans (hSC.out _ hf49).1, (set2_far NE).trans (hSC.out _ hf49).2⟩) (fun hHeld => ?hh14); (case ha14 => first | with_reducible rfl | (simp only [Act.put, hq1, hq2, hq3, Option.isNone, Bool.not_true, Bool.not_false]; (try with_reducible rfl))); (case hl14 => (simp only [Act.put, hq1, hq2, hq3, Option.isNone, Bool.not_true, Bool.not_false]; (try with_reducible rfl))); clear hK K)
        ((first | refine held_sk (i := 12) ?_ | refine held_tk (i := 12) ?_))
        refine wpAnyH_done (by kernel_rfl) ?_ _
        have KEY : Hid (∀ W9, Chg (fun b => b = q) w9 W9 → Fr w W9 → KPost w X (.returned (.tuple #[.agg #[.slice A5 n c5, .slice A9 N9 c9], .int .i64 0])) W9) := by
          intro W9 hC hF
          have hs9 := hC.size
          have h2w := HF4.out.size
          have hkeep : ∀ {A : Option Addr} {n c : Nat} {l : List UInt8}, Byt w9 (NW w4.heap.size w9.heap.size) A n c l → Byt W9 (NW w.heap.size W9.heap.size) A n c l := fun h =>
            ⟨h.1, (h.2.chg sByte hC fun b hb => ⟨hb.2, fun e => by have e : b = q := e; have := hb.1; omega⟩).more sByte fun b hb => ⟨by have := hb.1; omega, by have := hb.2; omega⟩⟩
          rw [hx.out]
          exact ⟨A5, n, c5, A9, N9, c9, rfl, hkeep HB5'.out, hkeep HB9.out, hF⟩
        clear hqx
        go_wp2_with fail
        refine bodyPost_ret (v := .tuple #[.agg #[.slice A5 n c5, .slice A9 N9 c9], .int .i64 0]) ?_ rfl (KEY.out _ (Chg.of (grw2_ ⟨rfl, rfl, rfl, Nat.le_refl _, fun _ _ _ => rfl⟩)) (bel2_ HF9'.out (by have := HQW.out; omega)))
        simp [results, Tryz.results4, go_sem, bq0, bq1, lq]
    · skip
      go_simp
      obtain ⟨w8, hw8⟩ : ∃ W : World, W = (World.alloc w5 (.cells #[.int .u8 10] 5)) := ⟨_, rfl⟩
      obtain ⟨y8, hy8⟩ : ∃ y : Nat, y = Array.size (World.heap w5) := ⟨_, rfl⟩
      rw [← hw8, ← hy8]
      have hk8 : w8.heap[y8]? = some (.cells #[.int .u8 10] 5 (0, 0)) := by rw [hw8]; first | exact heap_new hy8 | exact heap_d (heap_new hy8)
      have hf8 : Fr w5 w8 := by rw [hw8]; first | exact frAlloc _ _ | exact (frAlloc _ _).drew
      have hf48 : Fr w4 w8 := Fr.trans (hf45) hf8
      have HK8 := Lib.hid hk8
      have HF8 := Lib.hid hf8
      have HY8 := Lib.hid hy8
      clear hw8 hk8 hf8 hy8
      (refine held_back hK (a' := ?hA15) (l' := ?hL15) ?ha15 ?hl15 (hSC.out _ hf48) (fun hHeld => ?hh15); (case ha15 => first | with_reducible rfl | (simp only [Act.put, hq1, hq2, hq3, Option.isNone, Bool.not_true, Bool.not_false]; (try with_reducible rfl))); (case hl15 => (simp only [Act.put, hq1, hq2, hq3, Option.isNone, Bool.not_true, Bool.not_false]; (try with_reducible rfl))); clear hK K)
      have hf4c := hf48
      have HB8 : Hid (Byt w8 (NW w4.heap.size w8.heap.size) A5 n c5 d.safe) := ⟨HB5.out.1, (HB5.out.2.keep sByte fun x hx => HF8.out.cell hx.2).more sByte fun x hx => ⟨hx.1, Nat.lt_of_lt_of_le hx.2 HF8.out.size⟩⟩
      refine held_one (i := 5) rfl (by kernel_rfl) (fun K hK => ?_)
      go_simp
      go_at_call 19
      (with_reducible refine (C2.out _ (Fr.trans HF4.out hf48)).mono ?_)
      rintro rr w6 ⟨u2, rfl, ho2, hf6⟩
      have hf46 : Fr w4 w6 := Fr.trans (hf48) hf6
      have HO6 := Lib.hid ho2
      have HF6 := Lib.hid hf6
      clear ho2 hf6
      (refine held_back hK (a' := ?hA16) (l' := ?hL16) ?ha16 ?hl16 (hSC.out _ hf46) (fun hHeld => ?hh16); (case ha16 => first | with_reducible rfl | (simp only [Act.put, hq1, hq2, hq3, Option.isNone, Bool.not_true, Bool.not_false]; (try with_reducible rfl))); (case hl16 => (simp only [Act.put, hq1, hq2, hq3, Option.isNone, Bool.not_true, Bool.not_false]; (try with_reducible rfl))); clear hK K)
      refine held_one (i := 7) rfl (by kernel_rfl) (fun K hK => ?_)
      refine step_appStr rfl (.tmp 42) (.tmp 43) 22 9 rfl (Array.size (World.heap w8)) 5 Tryz.underlying22 Tryz.underlying9 infoByte _ d.wait rfl (HO6.out) ps rfl hpw (Below.size (HF6.out)) (Array.size (World.heap w8)) w8 (HF6.out) (Nat.le_refl _) ?_
      intro v7 w7 HO7 HF7 HK7
      (refine held_back hK (a' := ?hA17) (l' := ?hL17) ?ha17 ?hl17 (hSC.out _ (Fr.trans (hf48) HF7.out)) (fun hHeld => ?hh17); (case ha17 => first | with_reducible rfl | (simp only [Act.put, hq1, hq2, hq3, Option.isNone, Bool.not_true, Bool.not_false]; (try with_reducible rfl))); (case hl17 => (simp only [Act.put, hq1, hq2, hq3, Option.isNone, Bool.not_true, Bool.not_false]; (try with_reducible rfl))); clear hK K)
      refine held_one (i := 9) rfl (by kernel_rfl) (fun K hK => ?_)
      refine step_app1 rfl (.tmp 44) (.tmp 45) 22 rfl (Array.size (World.heap w8)) 5 (bV 0) 1 Tryz.underlying22 infoByte rfl (by decide) sByte _ (Below.refl _ _) v7 (d.wait ++ ps) rfl (HO7.out) y8 [.int .u8 10] 5 (0, 0) rfl (blk_go HK8.out HF7.out) rfl (by simp [Value.oneCell']) 10 rfl hpm hpb (Array.size (World.heap w8)) w8 (HF7.out) (Nat.le_refl _) (Below.size (HF7.out)) ?_
      intro v9 w9 HO9 HF9
      have hf49 : Fr w4 w9 := Fr.trans hf4c HF9.out
      obtain ⟨L, hL⟩ : ∃ L, L = d.wait ++ ps ++ [10] := ⟨_, rfl⟩
      have hLL : L.length ≤ lim := by rw [hL]; have := HLEN.out; have := hKs.out; simp only [List.length_append, List.length_cons, List.length_nil]; unfold lim; omega
      rw [← hL] at HO9 hx
      clear hL
      obtain ⟨A9, c9, rfl, hb9⟩ := HO9.out.byt hLL
      obtain ⟨N9, hN9⟩ : ∃ N9, N9 = L.length := ⟨_, rfl⟩
      rw [← hN9] at hb9 ⊢
      have h4c := Below.size hf4c
      have HB9 : Hid (Byt w9 (NW w4.heap.size w9.heap.size) A9 N9 c9 L) := ⟨hb9.1, hb9.2.more sByte fun x hx => ⟨Nat.le_trans h4c hx.1, hx.2⟩⟩
      have HB5' : Hid (Byt w9 (NW w4.heap.size w9.heap.size) A5 n c5 d.safe) := ⟨(HB8.out).1, ((HB8.out).2.keep sByte fun x hx => HF9.out.cell hx.2).more sByte fun x hx => ⟨hx.1, Nat.lt_of_lt_of_le hx.2 HF9.out.size⟩⟩
      have HF9' : Hid (Fr w w9) := HF4.out.trans hf49
      have hqx := blk_go HQ4.out hf49
      have hqw : q < w4.heap.size := (Array.getElem?_eq_some_iff.1 HQ4.out).1
      clear hb9 HO9 hLL hN9 h4c
      (refine held_back hK (a' := ?hA18) (l' := ?hL18) ?ha18 ?hl18 (hSC.out _ hf49) (fun hHeld => ?hh18); (case ha18 => first | with_reducible rfl | (simp only [Act.put, hq1, hq2, hq3, Option.isNone, Bool.not_true, Bool.not_false]; (try with_reducible rfl))); (case hl18 => (simp only [Act.put, hq1, hq2, hq3, Option.isNone, Bool.not_true, Bool.not_false]; (try with_reducible rfl))); clear hK K)
      ((first | refine held_sk (i := 10) ?_ | refine held_tk (i := 10) ?_))
      (obtain ⟨bq0, bq1⟩ := box2_ hqx)
      have y0 := blk_free (i := 0) hqx
      have y1 := blk_free (i := 1) hqx
      have lq := (Array.getElem?_eq_some_iff.1 hqx).1
      refine held_one (i := 11) rfl (by kernel_rfl) (fun K hK => ?_)
      go_simp
      (refine held_back hK (a' := ?hA19) (l' := ?hL19) ?ha19 ?hl19 (⟨(set2_far NE).trans (hSC.out _ hf49).1, (set2_far NE).trans (hSC.out _ hf49).2⟩) (fun hHeld => ?hh19); (case ha19 => first | with_reducible rfl | (simp only [Act.put, hq1, hq2, hq3, Option.isNone, Bool.not_true, Bool.not_false]; (try with_reducible rfl))); (case hl19 => (simp only [Act.put, hq1, hq2, hq3, Option.isNone, Bool.not_true, Bool.not_false]; (try with_reducible rfl))); clear hK K)
      ((first | refine held_sk (i := 12) ?_ | refine held_tk (i := 12) ?_))
      refine wpAnyH_done (by kernel_rfl) ?_ _
      have KEY : Hid (∀ W9, Chg (fun b => b = q) w9 W9 → Fr w W9 → KPost w X (.returned (.tuple #[.agg #[.slice A5 n c5, .slice A9 N9 c9], .int .i64 0])) W9) := by
        intro W9 hC hF
        have hs9 := hC.size
        have h2w := HF4.out.size
        have hkeep : ∀ {A : Option Addr} {n c : Nat} {l : List UInt8}, Byt w9 (NW w4.heap.size w9.heap.size) A n c l → Byt W9 (NW w.heap.size W9.heap.size) A n c l := fun h =>
          ⟨h.1, (h.2.chg sByte hC fun b hb => ⟨hb.2, fun e => by have e : b = q := e; have := hb.1; omega⟩).more sByte fun b hb => ⟨by have := hb.1; omega, by have := hb.2; omega⟩⟩
        rw [hx.out]
        exact ⟨A5, n, c5, A9, N9, c9, rfl, hkeep HB5'.out, hkeep HB9.out, hF⟩
      clear hqx
      go_wp2_with fail
      refine bodyPost_ret (v := .tuple #[.agg #[.slice A5 n c5, .slice A9 N9 c9], .int .i64 0]) ?_ rfl (KEY.out _ (Chg.of (grw2_ ⟨rfl, rfl, rfl, Nat.le_refl _, fun _ _ _ => rfl⟩)) (bel2_ HF9'.out (by have := HQW.out; omega)))
      simp [results, Tryz.results4, go_sem, bq0, bq1, lq]
  · skip
    go_simp
    obtain ⟨w8, hw8⟩ : ∃ W : World, W = (World.alloc w4 (.cells #[.int .u8 10] 5)).drew := ⟨_, rfl⟩
    obtain ⟨y8, hy8⟩ : ∃ y : Nat, y = Array.size (World.heap w4) := ⟨_, rfl⟩
    rw [← hw8, ← hy8]
    have hk8 : w8.heap[y8]? = some (.cells #[.int .u8 10] 5 (0, 0)) := by rw [hw8]; first | exact heap_new hy8 | exact heap_d (heap_new hy8)
    have hf8 : Fr w4 w8 := by rw [hw8]; first | exact frAlloc _ _ | exact (frAlloc _ _).drew
    have hf48 : Fr w4 w8 := Fr.trans (Below.refl _ _) hf8
    have HK8 := Lib.hid hk8
    have HF8 := Lib.hid hf8
    have HY8 := Lib.hid hy8
    clear hw8 hk8 hf8 hy8
    (refine held_back hK (a' := ?hA20) (l' := ?hL20) ?ha20 ?hl20 (hSC.out _ hf48) (fun hHeld => ?hh20); (case ha20 => first | with_reducible rfl | (simp only [Act.put, hq1, hq2, hq3, Option.isNone, Bool.not_true, Bool.not_false]; (try with_reducible rfl))); (case hl20 => (simp only [Act.put, hq1, hq2, hq3, Option.isNone, Bool.not_true, Bool.not_false]; (try with_reducible rfl))); clear hK K)
    refine held_one (i := 2) rfl (by kernel_rfl) (fun K hK => ?_)
    go_simp
    go_at_call 19
    (with_reducible refine (C1.out _ (Fr.trans HF4.out hf48)).mono ?_)
    rintro rr w5 ⟨u1, rfl, ho1, hf5⟩
    obtain ⟨A5, c5, rfl, hb5⟩ := ho1.byt (by rw [hl]; have := HA.out.1.1; omega)
    rw [hl] at hb5
    rw [hl]
    have hf45 : Fr w4 w5 := Fr.trans (hf48) hf5
    have h45 := Below.size (hf48)
    have HB5 : Hid (Byt w5 (NW w4.heap.size w5.heap.size) A5 n c5 d.safe) := ⟨hb5.1, hb5.2.more sByte fun x hx => ⟨Nat.le_trans h45 hx.1, hx.2⟩⟩
    have HF5 := Lib.hid hf5
    clear ho1 hf5 hb5 h45
    (refine held_back hK (a' := ?hA21) (l' := ?hL21) ?ha21 ?hl21 (hSC.out _ hf45) (fun hHeld => ?hh21); (case ha21 => first | with_reducible rfl | (simp only [Act.put, hq1, hq2, hq3, Option.isNone, Bool.not_true, Bool.not_false]; (try with_reducible rfl))); (case hl21 => (simp only [Act.put, hq1, hq2, hq3, Option.isNone, Bool.not_true, Bool.not_false]; (try with_reducible rfl))); clear hK K)
    have hf4c := hf45
    refine held_one (i := 5) rfl (by kernel_rfl) (fun K hK => ?_)
    go_simp
    go_at_call 19
    (with_reducible refine (C2.out _ (Fr.trans HF4.out hf45)).mono ?_)
    rintro rr w6 ⟨u2, rfl, ho2, hf6⟩
    have hf46 : Fr w4 w6 := Fr.trans (hf45) hf6
    have HO6 := Lib.hid ho2
    have HF6 := Lib.hid hf6
    clear ho2 hf6
    (refine held_back hK (a' := ?hA22) (l' := ?hL22) ?ha22 ?hl22 (hSC.out _ hf46) (fun hHeld => ?hh22); (case ha22 => first | with_reducible rfl | (simp only [Act.put, hq1, hq2, hq3, Option.isNone, Bool.not_true, Bool.not_false]; (try with_reducible rfl))); (case hl22 => (simp only [Act.put, hq1, hq2, hq3, Option.isNone, Bool.not_true, Bool.not_false]; (try with_reducible rfl))); clear hK K)
    refine held_one (i := 7) rfl (by kernel_rfl) (fun K hK => ?_)
    refine step_appStr rfl (.tmp 42) (.tmp 43) 22 9 rfl (Array.size (World.heap w5)) 5 Tryz.underlying22 Tryz.underlying9 infoByte _ d.wait rfl (HO6.out) ps rfl hpw (Below.size (HF6.out)) (Array.size (World.heap w5)) w5 (HF6.out) (Nat.le_refl _) ?_
    intro v7 w7 HO7 HF7 HK7
    (refine held_back hK (a' := ?hA23) (l' := ?hL23) ?ha23 ?hl23 (hSC.out _ (Fr.trans (hf45) HF7.out)) (fun hHeld => ?hh23); (case ha23 => first | with_reducible rfl | (simp only [Act.put, hq1, hq2, hq3, Option.isNone, Bool.not_true, Bool.not_false]; (try with_reducible rfl))); (case hl23 => (simp only [Act.put, hq1, hq2, hq3, Option.isNone, Bool.not_true, Bool.not_false]; (try with_reducible rfl))); clear hK K)
    refine held_one (i := 9) rfl (by kernel_rfl) (fun K hK => ?_)
    refine step_app1 rfl (.tmp 44) (.tmp 45) 22 rfl (Array.size (World.heap w5)) 5 (bV 0) 1 Tryz.underlying22 infoByte rfl (by decide) sByte _ (Below.refl _ _) v7 (d.wait ++ ps) rfl (HO7.out) y8 [.int .u8 10] 5 (0, 0) rfl (blk_go (blk_go HK8.out HF5.out) HF7.out) rfl (by simp [Value.oneCell']) 10 rfl hpm hpb (Array.size (World.heap w5)) w5 (HF7.out) (Nat.le_refl _) (Below.size (HF7.out)) ?_
    intro v9 w9 HO9 HF9
    have hf49 : Fr w4 w9 := Fr.trans hf4c HF9.out
    obtain ⟨L, hL⟩ : ∃ L, L = d.wait ++ ps ++ [10] := ⟨_, rfl⟩
    have hLL : L.length ≤ lim := by rw [hL]; have := HLEN.out; have := hKs.out; simp only [List.length_append, List.length_cons, List.length_nil]; unfold lim; omega
    rw [← hL] at HO9 hx
    clear hL
    obtain ⟨A9, c9, rfl, hb9⟩ := HO9.out.byt hLL
    obtain ⟨N9, hN9⟩ : ∃ N9, N9 = L.length := ⟨_, rfl⟩
    rw [← hN9] at hb9 ⊢
    have h4c := Below.size hf4c
    have HB9 : Hid (Byt w9 (NW w4.heap.size w9.heap.size) A9 N9 c9 L) := ⟨hb9.1, hb9.2.more sByte fun x hx => ⟨Nat.le_trans h4c hx.1, hx.2⟩⟩
    have HB5' : Hid (Byt w9 (NW w4.heap.size w9.heap.size) A5 n c5 d.safe) := ⟨(HB5.out).1, ((HB5.out).2.keep sByte fun x hx => HF9.out.cell hx.2).more sByte fun x hx => ⟨hx.1, Nat.lt_of_lt_of_le hx.2 HF9.out.size⟩⟩
    have HF9' : Hid (Fr w w9) := HF4.out.trans hf49
    have hqx := blk_go HQ4.out hf49
    have hqw : q < w4.heap.size := (Array.getElem?_eq_some_iff.1 HQ4.out).1
    clear hb9 HO9 hLL hN9 h4c
    (refine held_back hK (a' := ?hA24) (l' := ?hL24) ?ha24 ?hl24 (hSC.out _ hf49) (fun hHeld => ?hh24); (case ha24 => first | with_reducible rfl | (simp only [Act.put, hq1, hq2, hq3, Option.isNone, Bool.not_true, Bool.not_false]; (try with_reducible rfl))); (case hl24 => (simp only [Act.put, hq1, hq2, hq3, Option.isNone, Bool.not_true, Bool.not_false]; (try with_reducible rfl))); clear hK K)
    ((first | refine held_sk (i := 10) ?_ | refine held_tk (i := 10) ?_))
    (obtain ⟨bq0, bq1⟩ := box2_ hqx)
    have y0 := blk_free (i := 0) hqx
    have y1 := blk_free (i := 1) hqx
    have lq := (Array.getElem?_eq_some_iff.1 hqx).1
    refine held_one (i := 11) rfl (by kernel_rfl) (fun K hK => ?_)
    go_simp
    (refine held_back hK (a' := ?hA25) (l' := ?hL25) ?ha25 ?hl25 (⟨(set2_far NE).trans (hSC.out _ hf49).1, (set2_far NE).trans (hSC.out _ hf49).2⟩) (fun hHeld => ?hh25); (case ha25 => first | with_reducible rfl | (simp only [Act.put, hq1, hq2, hq3, Option.isNone, Bool.not_true, Bool.not_false]; (try with_reducible rfl))); (case hl25 => (simp only [Act.put, hq1, hq2, hq3, Option.isNone, Bool.not_true, Bool.not_false]; (try with_reducible rfl))); clear hK K)
    ((first | refine held_sk (i := 12) ?_ | refine held_tk (i := 12) ?_))
    refine wpAnyH_done (by kernel_rfl) ?_ _
    have KEY : Hid (∀ W9, Chg (fun b => b = q) w9 W9 → Fr w W9 → KPost w X (.returned (.tuple #[.agg #[.slice A5 n c5, .slice A9 N9 c9], .int .i64 0])) W9) := by
      intro W9 hC hF
      have hs9 := hC.size
      have h2w := HF4.out.size
      have hkeep : ∀ {A : Option Addr} {n c : Nat} {l : List UInt8}, Byt w9 (NW w4.heap.size w9.heap.size) A n c l → Byt W9 (NW w.heap.size W9.heap.size) A n c l := fun h =>
        ⟨h.1, (h.2.chg sByte hC fun b hb => ⟨hb.2, fun e => by have e : b = q := e; have := hb.1; omega⟩).more sByte fun b hb => ⟨by have := hb.1; omega, by have := hb.2; omega⟩⟩
      rw [hx.out]
      exact ⟨A5, n, c5, A9, N9, c9, rfl, hkeep HB5'.out, hkeep HB9.out, hF⟩
    clear hqx
    go_wp2_with fail
    refine bodyPost_ret (v := .tuple #[.agg #[.slice A5 n c5, .slice A9 N9 c9], .int .i64 0]) ?_ rfl (KEY.out _ (Chg.of (grw2_ ⟨rfl, rfl, rfl, Nat.le_refl _, fun _ _ _ => rfl⟩)) (bel2_ HF9'.out (by have := HQW.out; omega)))
    simp [results, Tryz.results4, go_sem, bq0, bq1, lq]
end Go.Proofs.YtbincgbgeccccaaGreatDoor
namespace Go.Proofs.YtbincgbgeccccaaGreatDoor
open Go.RowKit

section
variable {α : Type} {size : Nat} {r : ERd α}
theorem own_isSl {base : Nat} {w : World} {e : TypeId} {v : Value} {xs : List α} (h : Own size r w base e v xs) : ∃ A n c, v = .slice A n c := by
  obtain ⟨cs, ho, _⟩ := h
  rcases ho.2 with ⟨h0, _⟩ | ⟨g, cap, cur, h0, _⟩
  · exact ⟨_, _, _, h0⟩
  · exact ⟨_, _, _, h0⟩

theorem app_o2 {P : Program} {W0 W1 : World} {base e b t ty : TypeId} {news : List Value} {te : TypeId} {v : Value} {xs : List α} {y : α} {fr : Nat × Nat} {i : TypeInfo} {z : Value} {bytes : Nat} (st : Stable size r) (ht : P.underlying t = some (.slice e)) (hi1 : P.info? e = some i) (hi2 : i.zero = some z) (hi3 : i.size = size) (hi4 : i.bytes = bytes)
    (hzs : z.cells.size = size) (hsz : 0 < size) (hown : Own size r W0 base e v xs) (hf : Fr W0 W1) (hblk : W1.heap[b]? = some (.cells news.toArray te fr)) (hl : news.length = size) (h1 : ∀ u ∈ news, u.oneCell' = true)
    (hy : r W0 (fun b => b < W0.heap.size ∧ v.ownBlock ≠ some b) (fun j => news[j]?) y) (h63 : xs.length + 1 ≤ maxLen) (hbytes : (xs.length + 1) * bytes ≤ lim) (hbase : base ≤ W0.heap.size) :
    ∃ v' w', (Builtin.append_ #[t, t] ty #[v, .slice (some ⟨b, 0, none⟩) 1 1]).run P W1 = .ok v' w' ∧ Own size r w' base e v' (xs ++ [y]) ∧ Chg (fun k => v.ownBlock = some k) W0 w' ∧ ∀ k, v'.ownBlock = some k → v.ownBlock = some k ∨ W0.heap.size ≤ k := by
  obtain ⟨q1, q2, q3⟩ := app1_pre (P := P) st hown hf hblk hl hy
  obtain ⟨cs, hrow, hr⟩ := q1
  obtain ⟨v', w', hrun, g2, g3, g4, g5⟩ := run_append_own_at (P := P) W1 base t ty e i z size bytes ht hi1 hi2 hi3 hi4 hzs hsz v xs.length cs hrow ⟨b, 0, none⟩ 1 1 news (by rw [Nat.one_mul]; exact hl) q2 h1 h63 hbytes (Nat.le_trans hbase hf.size)
  have hg : Chg (fun k => v.ownBlock = some k) W1 w' := ⟨g3.os, g3.tape, g3.output, g3.size, fun k hk hs => g3.block k hk fun e => hs e.symm⟩
  refine ⟨v', w', hrun, own_apps st hr hrow.1 rfl q3 g2 g3 g5, hf.chg.trans hg, fun k hk => ?_⟩
  rcases g5 with g5 | g5
  · exact .inl (g5.symm.trans hk)
  · rw [g5] at hk
    injection hk with hk
    exact .inr (by rw [← hk]; exact hf.size)
/-- 'append(v, y)' as wpList_app1 has it; and where what is new lies. -/
theorem wpList_app2o {P : Program} {W1 : World} {ops : Array Oper} {rest : List Oper} {o : Oper} {a : Act} {Q : Exit → Act → World → Prop} (hgd : o.guard = none) (s x : Operand) (t : TypeId)
    (ho : o.op = .call { callee := .builtin .append, args := #[s, x], argTypes := #[t, t] })
    (base : Nat) (e : TypeId) (z : Value) (bytes : Nat) (ht : P.underlying t = some (.slice e)) (hi : (P.info? e).map (fun i => (i.zero, i.size, i.bytes)) = some (some z, size, bytes))
    (hzs : z.cells.size = size) (hsz : 0 < size) (st : Stable size r)
    (W0 : World) (hf : Fr W0 W1) (v : Value) (xs : List α) (hs : a.eval s = v) (hown : Own size r W0 base e v xs)
    (b : Nat) (news : List Value) (te : TypeId) (fr : Nat × Nat) (hx : a.eval x = .slice (some ⟨b, 0, none⟩) 1 1) (hblk : W1.heap[b]? = some (.cells news.toArray te fr)) (hl : news.length = size) (h1 : ∀ u ∈ news, u.oneCell' = true)
    (y : α) (hy : r W0 (fun b => b < W0.heap.size ∧ v.ownBlock ≠ some b) (fun j => news[j]?) y)
    (h63 : xs.length + 1 ≤ maxLen) (hbytes : (xs.length + 1) * bytes ≤ lim) (hbase : base ≤ W0.heap.size)
    (h : ∀ v' w', Hid (Own size r w' base e v' (xs ++ [y])) → Hid (Chg (fun k => v.ownBlock = some k) W0 w') → Hid (∀ k, v'.ownBlock = some k → v.ownBlock = some k ∨ W0.heap.size ≤ k) → wpList P ops Q rest (a.put o.dst v') w') : wpList P ops Q (o :: rest) a W1 := by
  obtain ⟨i, hi1, hi2⟩ := Option.map_eq_some_iff.1 hi
  simp only [Prod.mk.injEq] at hi2
  refine wpList_plain hgd fun K hK => ?_
  obtain ⟨v', w', hrun, k1, k2, k3⟩ := app_o2 (P := P) (ty := o.type) st ht hi1 hi2.1 hi2.2.1 hi2.2.2 hzs hsz hown hf hblk hl h1 hy h63 hbytes hbase
  unfold Oper.wp execOp
  simp only [ho, resolve, invoke, builtin, Sem.run_bind, Sem.run_pure, Result.andThen_ok, List.map_toArray, List.map_cons, List.map_nil, hs, hx, hrun]
  exact hK _ _ (h v' w' k1 k2 k3)
/-- The same as a step of a region that draws its order. -/
theorem step_app2o {P : Program} {W1 : World} {ops : Array Oper} {o : Oper} {a : Act} {K : Act → World → Prop} {Q : Exit → Act → World → Prop} {E : Prop} (hgd : o.guard = none) (s x : Operand) (t : TypeId)
    (ho : o.op = .call { callee := .builtin .append, args := #[s, x], argTypes := #[t, t] })
    (base : Nat) (e : TypeId) (z : Value) (bytes : Nat) (ht : P.underlying t = some (.slice e)) (hi : (P.info? e).map (fun i => (i.zero, i.size, i.bytes)) = some (some z, size, bytes))
    (hzs : z.cells.size = size) (hsz : 0 < size) (st : Stable size r)
    (W0 : World) (hf : Fr W0 W1) (v : Value) (xs : List α) (hs : a.eval s = v) (hown : Own size r W0 base e v xs)
    (b : Nat) (news : List Value) (te : TypeId) (fr : Nat × Nat) (hx : a.eval x = .slice (some ⟨b, 0, none⟩) 1 1) (hblk : W1.heap[b]? = some (.cells news.toArray te fr)) (hl : news.length = size) (h1 : ∀ u ∈ news, u.oneCell' = true)
    (y : α) (hy : r W0 (fun b => b < W0.heap.size ∧ v.ownBlock ≠ some b) (fun j => news[j]?) y)
    (h63 : xs.length + 1 ≤ maxLen) (hbytes : (xs.length + 1) * bytes ≤ lim) (hbase : base ≤ W0.heap.size)
    (h : ∀ v' w', Hid (Own size r w' base e v' (xs ++ [y])) → Hid (Chg (fun k => v.ownBlock = some k) W0 w') → Hid (∀ k, v'.ownBlock = some k → v.ownBlock = some k ∨ W0.heap.size ≤ k) → K (a.put o.dst v') w') :
    if Region.wanted o (yielded ops a.tmps) = true then Oper.wp P o a W1 K Q else E := by
  have hw : Region.wanted o (yielded ops a.tmps) = true := by simp [Region.wanted, hgd]
  rw [if_pos hw]
  obtain ⟨i, hi1, hi2⟩ := Option.map_eq_some_iff.1 hi
  simp only [Prod.mk.injEq] at hi2
  obtain ⟨v', w', hrun, k1, k2, k3⟩ := app_o2 (P := P) (ty := o.type) st ht hi1 hi2.1 hi2.2.1 hi2.2.2 hzs hsz hown hf hblk hl h1 hy h63 hbytes hbase
  unfold Oper.wp execOp
  simp only [ho, resolve, invoke, builtin, Sem.run_bind, Sem.run_pure, Result.andThen_ok, List.map_toArray, List.map_cons, List.map_nil, hs, hx, hrun]
  exact h v' w' k1 k2 k3
end
/-- An operation, by the slot that it fills. -/
theorem stepPick {P : Program} {w : World} {ops : Array Oper} {o : Oper} {n : Nat} {a : Act} {K : Act → World → Prop} {Q : Exit → Act → World → Prop} {E : Prop} (hd : o.dst = some n) (h : if Region.wanted o (yielded ops a.tmps) = true then Oper.wp P o a w K Q else E) :
    if Region.wanted o (yielded ops a.tmps) = true then Oper.wp P o a w K Q else E := h
end Go.Proofs.YtbincgbgeccccaaGreatDoor
namespace Go.Proofs.YtbincgbgeccccaaGreatDoor
open Go.RowKit
attribute [local irreducible] wpList

section
variable {α : Type} {size : Nat} {r : ERd α}
/-- A store between turns nothing of an own slice whose elements lie below. -/
theorem Own.lowSet {N base : Nat} {w w' : World} {e : TypeId} {v : Value} {xs : List α} {T : Nat → Prop} (s : Stable size r) (h : Own size (eLow N r) w base e v xs) (k : Chg T w w') (hT : ∀ b, T b → N ≤ b ∧ b < base) : Own size (eLow N r) w' base e v xs := by
  obtain ⟨cs, ho, hr⟩ := h
  refine ⟨cs, ⟨ho.1, ?_⟩, fun i x hx => ?_⟩
  · rcases ho.2 with h0 | ⟨g, cap, cur, h1, h2, h3, h4⟩
    · exact .inl h0
    · exact .inr ⟨g, cap, cur, h1, h2, k.blk h3 (fun e => by have := hT g e; omega), h4⟩
  · exact s.more (fun b hb => ⟨⟨Nat.lt_of_lt_of_le hb.1.1 k.size, hb.1.2⟩, hb.2⟩) (s.keep (fun p hp => k.cell hp.1.1 fun e => by have := hT _ e; have := hp.2; omega) (hr i x hx))
theorem Chg.tr4 {S T : Nat → Prop} {a b c : World} (h : Chg S a b) (k : Chg T b c) (hs : ∀ x, T x → S x ∨ a.heap.size ≤ x) : Chg S a c :=
  ⟨k.os.trans h.os, k.tape.trans h.tape, k.output.trans h.output, Nat.le_trans h.size k.size, fun x hx hn => (k.block x (Nat.lt_of_lt_of_le hx h.size) fun e => by
    rcases hs x e with q | q
    · exact hn q
    · omega).trans (h.block x hx hn)⟩
end
/-- Records put, one after another: those that were taken. -/
def putAll : Dk → List Rc → List Rc → Dk × List Rc
  | d, out, [] => (d, out)
  | d, out, c :: cs => if (putF d c).2 = 0 then putAll (putF d c).1 (out ++ [c]) cs else putAll d out cs
/-- A disk at a place of its own. -/
def DkAt (w : World) (p : Nat) (d : Dk) : Prop := ∃ A n c B m e, w.heap[p]? = some (.cells #[.slice A n c, .slice B m e] 24 (0, 0)) ∧ Byt w (fun b => b < w.heap.size ∧ b ≠ p) A n c d.safe ∧ Byt w (fun b => b < w.heap.size ∧ b ≠ p) B m e d.wait
theorem DkAt.go {w w' : World} {p : Nat} {d : Dk} (h : DkAt w p d) (hf : Fr w w') : DkAt w' p d := by
  obtain ⟨A, n, c, B, m, e, h1, h2, h3⟩ := h
  have hk : ∀ {A : Option Addr} {n c : Nat} {l : List UInt8}, Byt w (fun b => b < w.heap.size ∧ b ≠ p) A n c l → Byt w' (fun b => b < w'.heap.size ∧ b ≠ p) A n c l := fun h => ⟨h.1, (h.2.keep sByte fun x hx => hf.cell hx.1).more sByte fun x hx => ⟨Nat.lt_of_lt_of_le hx.1 hf.size, hx.2⟩⟩
  exact ⟨A, n, c, B, m, e, blk_go h1 hf, hk h2, hk h3⟩
end Go.Proofs.YtbincgbgeccccaaGreatDoor
namespace Go.Proofs.YtbincgbgeccccaaGreatDoor
open Go.RowKit
attribute [local irreducible] wpList

set_option maxRecDepth 100000 in
set_option maxHeartbeats 8000000 in
theorem diskSync_any (w : World) (v : Vars w) (d : Dk) (A : Option Addr) (n c : Nat) (B : Option Addr) (m e : Nat) (hA : Byt w (LT w.heap.size) A n c d.safe) (hB : Byt w (LT w.heap.size) B m e d.wait) :
    Calls Tryz.prog 5 #[.agg #[.slice A n c, .slice B m e]] w (KPost w (syncF d)) := by
  obtain ⟨X, hX⟩ : ∃ X, X = syncF d := ⟨_, rfl⟩
  rw [← hX]
  have hl := hA.2.1
  have hl2 := hB.2.1
  obtain ⟨W1, hW1⟩ : ∃ W1, W1 = (w.alloc (.cells #[.slice A n c, .slice B m e] 24)).alloc (.cells #[.slice none 0 0, .slice none 0 0] 24) := ⟨_, rfl⟩
  obtain ⟨p, hp⟩ : ∃ p, p = w.heap.size := ⟨_, rfl⟩
  obtain ⟨q, hq⟩ : ∃ q, q = w.heap.size + 1 := ⟨_, rfl⟩
  have hp1 : W1.heap[p]? = some (.cells #[.slice A n c, .slice B m e] 24 (0, 0)) := by rw [hW1]; exact heap_old (heap_new hp)
  have hq1 : W1.heap[q]? = some (.cells #[.slice none 0 0, .slice none 0 0] 24 (0, 0)) := by rw [hW1]; exact heap_new (by rw [hq]; simp)
  have HF1 : Hid (Fr w W1) := by rw [hW1]; exact (frAlloc _ _).trans (frAlloc _ _)
  have HQW := Lib.hid hq
  have HP1 := Lib.hid hp1
  have HQ1 := Lib.hid hq1
  obtain ⟨ck, hck⟩ : ∃ ck, ck = diskCheck d := ⟨_, rfl⟩
  have CK : Hid (Calls Tryz.prog 10 #[.agg #[.slice A n c, .slice B m e]] W1 fun r w' => r = .returned (.int .i64 ck) ∧ Fr W1 w') := by rw [hck]; exact diskCheck_any W1 (v.go HF1.out) d A n c B m e (hA.go HF1.out) (hB.go HF1.out)
  have HV := Lib.hid v
  have HA := Lib.hid hA
  have HB := Lib.hid hB
  have HX := Lib.hid hX
  have HCK := Lib.hid hck
  (obtain ⟨bp0, bp1⟩ := box2_ hp1)
  clear hp1 hq1 hA hB hX hck v
  go_enter Tryz.func5, Tryz.ntmps5
  go_upto_region 1 with fail
  rw [← hW1, ← hq, ← hp]
  clear hW1 hp hq
  go_wp2_with fail
  (with_reducible refine (CK.out).mono ?_)
  rintro r w2 ⟨rfl, hf2⟩
  have HF2 : Hid (Fr w w2) := HF1.out.trans hf2
  have HP2 := Lib.hid (blk_go HP1.out hf2)
  have HQ2 := Lib.hid (blk_go HQ1.out hf2)
  clear hf2 CK HF1 HP1 HQ1 bp0 bp1
  by_cases h1 : ck = 0
  case neg =>
    have t1 : (ck != 0) = true := by simp [h1]
    have hx : Hid (X = (Dk.zero, ck)) := HX.out.trans (by unfold syncF; rw [← HCK.out, if_pos h1])
    have hqx := HQ2.out
    (obtain ⟨bq0, bq1⟩ := box2_ hqx)
    have y0 := blk_free (i := 0) hqx
    have y1 := blk_free (i := 1) hqx
    have lq := (Array.getElem?_eq_some_iff.1 hqx).1
    clear h1 hqx
    go_wp2_with fail
    refine bodyPost_ret (v := .tuple #[.agg #[.slice none 0 0, .slice none 0 0], .int .i64 ck]) ?_ rfl (kpost_err hx.out (bel2_ HF2.out (by have := HQW.out; omega)))
    simp [results, Tryz.results5, go_sem, bq0, bq1, lq]
  case pos =>
  have t1 : (ck != 0) = false := by simp [h1]
  have hk := diskCheck_ok (HCK.out.symm.trans h1)
  have hsz := hk.size
  have HX2 : Hid (X = if diskCheck ⟨d.safe ++ d.wait, []⟩ ≠ 0 then (Dk.zero, diskCheck ⟨d.safe ++ d.wait, []⟩) else (⟨d.safe ++ d.wait, []⟩, 0)) := HX.out.trans (by unfold syncF; rw [← HCK.out, if_neg (by simp [h1])])
  have hpx := HP2.out
  (obtain ⟨bp0, bp1⟩ := box2_ hpx)
  clear h1 hk hpx HX HCK
  go_wp2_with fail
  obtain ⟨W3, hW3⟩ : ∃ W3, W3 = w2.alloc (.cells #[.slice A n c, .slice B m e] 22) := ⟨_, rfl⟩
  obtain ⟨y, hy⟩ : ∃ y, y = w2.heap.size := ⟨_, rfl⟩
  rw [← hW3, ← hy]
  have hy3 : W3.heap[y]? = some (.cells #[.slice A n c, .slice B m e] 22 (0, 0)) := by rw [hW3]; exact heap_new hy
  have hf3 : Fr w2 W3 := by rw [hW3]; exact frAlloc _ _
  have HF3 : Hid (Fr w W3) := HF2.out.trans hf3
  have HQ3 := Lib.hid (blk_go HQ2.out hf3)
  have CC : Hid (Calls Tryz.prog 20 #[.slice (some ⟨y, 0, none⟩) 2 2] W3 fun r w' => ∃ u, r = .returned u ∧ Own 1 eByte w' W3.heap.size 5 u (d.safe ++ d.wait) ∧ Fr W3 w') := by
    have hsl := sl_two hy3 (blk_LT hy3) (HA.out.go HF3.out) (HB.out.go HF3.out)
    have := concatDBytes_any W3 _ 2 2 _ hsl (by unfold lim; omega) (by simp [lens]; unfold lim; omega) (by simp [lens]; unfold lim; omega)
    rw [show ([d.safe, d.wait] : List (List UInt8)).flatten = d.safe ++ d.wait by simp] at this
    exact this
  clear hW3 hy hy3 hf3 HF2 HP2 HQ2 bp0 bp1
  (with_reducible refine (CC.out).mono ?_)
  rintro r w4 ⟨u, rfl, ho, hf4⟩
  have hlen : (d.safe ++ d.wait).length ≤ 60000 := by rw [List.length_append]; omega
  obtain ⟨A5, c5, rfl, hb5⟩ := ho.byt (by unfold lim; omega)
  obtain ⟨L, hL⟩ : ∃ L, L = d.safe ++ d.wait := ⟨_, rfl⟩
  obtain ⟨N, hN⟩ : ∃ N, N = L.length := ⟨_, rfl⟩
  rw [← hL, ← hN] at hb5
  rw [← hL, ← hN]
  rw [← hL] at HX2
  have HF4 : Hid (Fr w w4) := HF3.out.trans hf4
  have HQ4 := Lib.hid (blk_go HQ3.out hf4)
  have HB5 := Lib.hid hb5
  have h3w := HF3.out.size
  have hqw3 : q < W3.heap.size := (Array.getElem?_eq_some_iff.1 HQ3.out).1
  clear ho hf4 CC hb5 HF3 HQ3 hlen hN
  go_upto_region 5 with fail
  obtain ⟨W6, hW6⟩ : ∃ W6, W6 = w4.alloc (.cells #[.slice A5 N c5, .slice none 0 0] 24) := ⟨_, rfl⟩
  obtain ⟨z, hz⟩ : ∃ z, z = w4.heap.size := ⟨_, rfl⟩
  rw [← hW6, ← hz]
  have hz6 : W6.heap[z]? = some (.cells #[.slice A5 N c5, .slice none 0 0] 24 (0, 0)) := by rw [hW6]; exact heap_new hz
  have hf6 : Fr w4 W6 := by rw [hW6]; exact frAlloc _ _
  have HF6 : Hid (Fr w W6) := HF4.out.trans hf6
  have HQ6 := Lib.hid (blk_go HQ4.out hf6)
  have HZ6 := Lib.hid hz6
  have HB6 : Hid (Byt W6 (NW W3.heap.size W6.heap.size) A5 N c5 L) := ⟨HB5.out.1, (HB5.out.2.keep sByte fun x hx => hf6.cell hx.2).more sByte fun x hx => ⟨hx.1, Nat.lt_of_lt_of_le hx.2 hf6.size⟩⟩
  obtain ⟨c2, hc2⟩ : ∃ c2, c2 = diskCheck ⟨L, []⟩ := ⟨_, rfl⟩
  rw [← hc2] at HX2
  have CK2 : Hid (Calls Tryz.prog 10 #[.agg #[.slice A5 N c5, .slice none 0 0]] W6 fun r w' => r = .returned (.int .i64 c2) ∧ Fr W6 w') := by rw [hc2]; exact diskCheck_any W6 (HV.out.go HF6.out) ⟨L, []⟩ A5 N c5 none 0 0 ⟨HB6.out.1, HB6.out.2.nw sByte⟩ byt_nil
  have hzx := HZ6.out
  (obtain ⟨bz0, bz1⟩ := box2_ hzx)
  clear hW6 hz hz6 hf6 HF4 HQ4 HB5 hc2 hzx hL
  go_wp2_with fail
  (with_reducible refine (CK2.out).mono ?_)
  rintro r w7 ⟨rfl, hf7⟩
  have HF7 : Hid (Fr w w7) := HF6.out.trans hf7
  have hqx := blk_go HQ6.out hf7
  have hzx := blk_go HZ6.out hf7
  have HF67 := Lib.hid hf7
  clear hf7 CK2 HF6 HQ6 HZ6 bz0 bz1
  (obtain ⟨bq0, bq1⟩ := box2_ hqx)
  (obtain ⟨bz0, bz1⟩ := box2_ hzx)
  have y0 := blk_free (i := 0) hqx
  have y1 := blk_free (i := 1) hqx
  have lq := (Array.getElem?_eq_some_iff.1 hqx).1
  by_cases h2 : c2 = 0
  case neg =>
    have t2 : (c2 != 0) = true := by simp [h2]
    have hx : Hid (X = (Dk.zero, c2)) := HX2.out.trans (if_pos h2)
    clear h2 hqx hzx
    go_wp2_with fail
    refine bodyPost_ret (v := .tuple #[.agg #[.slice none 0 0, .slice none 0 0], .int .i64 c2]) ?_ rfl (kpost_err hx.out (bel2_ HF7.out (by have := HQW.out; omega)))
    simp [results, Tryz.results5, go_sem, bq0, bq1, lq]
  case pos =>
  have t2 : (c2 != 0) = false := by simp [h2]
  have hx : Hid (X = (⟨L, []⟩, 0)) := HX2.out.trans (if_neg (by simp [h2]))
  have KEY : Hid (∀ W9, Chg (fun b => b = q) w7 W9 → Fr w W9 → KPost w X (.returned (.tuple #[.agg #[.slice A5 N c5, .slice none 0 0], .int .i64 0])) W9) := by
    intro W9 hC hF
    have hs := HF67.out.size
    have hs9 := hC.size
    rw [hx.out]
    refine ⟨A5, N, c5, none, 0, 0, rfl, ⟨HB6.out.1, ((HB6.out.2.keep sByte fun x hx => HF67.out.cell hx.2).chg sByte hC fun b hb => ⟨Nat.lt_of_lt_of_le hb.2 hs, fun e => by have e : b = q := e; have := hb.1; omega⟩).more sByte fun b hb => ⟨by have := hb.1; omega, by have := hb.2; omega⟩⟩, byt_nil, hF⟩
  clear h2 hqx hzx
  go_wp2_with fail
  refine bodyPost_ret (v := .tuple #[.agg #[.slice A5 N c5, .slice none 0 0], .int .i64 0]) ?_ rfl (KEY.out _ (Chg.of (grw2_ ⟨rfl, rfl, rfl, Nat.le_refl _, fun _ _ _ => rfl⟩)) (bel2_ HF7.out (by have := HQW.out; omega)))
  simp [results, Tryz.results5, go_sem, bq0, bq1, lq]
set_option maxRecDepth 100000 in
set_option maxHeartbeats 8000000 in
theorem diskSame_any (w : World) (a b : Dk) (A : Option Addr) (n c : Nat) (B : Option Addr) (m e : Nat) (A2 : Option Addr) (n2 c2 : Nat) (B2 : Option Addr) (m2 e2 : Nat) (hA : Byt w (LT w.heap.size) A n c a.safe) (hB : Byt w (LT w.heap.size) B m e a.wait) (hA2 : Byt w (LT w.heap.size) A2 n2 c2 b.safe) (hB2 : Byt w (LT w.heap.size) B2 m2 e2 b.wait) :
    Calls Tryz.prog 11 #[.agg #[.slice A n c, .slice B m e], .agg #[.slice A2 n2 c2, .slice B2 m2 e2]] w fun r w' => r = .returned (.bool (decide (a = b))) ∧ Fr w w' := by
  obtain ⟨W1, hW1⟩ : ∃ W1, W1 = (w.alloc (.cells #[.slice A n c, .slice B m e] 24)).alloc (.cells #[.slice A2 n2 c2, .slice B2 m2 e2] 24) := ⟨_, rfl⟩
  obtain ⟨p, hp⟩ : ∃ p, p = w.heap.size := ⟨_, rfl⟩
  obtain ⟨q, hq⟩ : ∃ q, q = w.heap.size + 1 := ⟨_, rfl⟩
  have hp1 : W1.heap[p]? = some (.cells #[.slice A n c, .slice B m e] 24 (0, 0)) := by rw [hW1]; exact heap_old (heap_new hp)
  have hq1 : W1.heap[q]? = some (.cells #[.slice A2 n2 c2, .slice B2 m2 e2] 24 (0, 0)) := by rw [hW1]; exact heap_new (by rw [hq]; simp)
  have HF1 : Hid (Fr w W1) := by rw [hW1]; exact (frAlloc _ _).trans (frAlloc _ _)
  have HP1 := Lib.hid hp1
  have HQ1 := Lib.hid hq1
  have hna : n ≤ maxLen := by have := hA.1; omega
  have hnb : m ≤ maxLen := by have := hB.1; omega
  obtain ⟨d1, hd1⟩ : ∃ d1, d1 = decide (a.safe = b.safe) := ⟨_, rfl⟩
  obtain ⟨d2, hd2⟩ : ∃ d2, d2 = decide (a.wait = b.wait) := ⟨_, rfl⟩
  have HD : Hid (decide (a = b) = (d1 && d2)) := by
    rw [Hid, hd1, hd2]
    obtain ⟨_, _⟩ := a
    obtain ⟨_, _⟩ := b
    simp
  have E1 : Hid (∀ W, Fr w W → Calls Tryz.prog 23 #[.slice A n c, .slice A2 n2 c2] W fun e w' => e = .returned (.bool d1) ∧ Fr W w') := fun W hf => by rw [hd1]; exact (equalBytes_any W _ _ A A2 n c n2 c2 _ _ (hA.2.go sByte hf) (hA2.2.go sByte hf) hna).mono fun e w' ⟨he, k, hk⟩ => ⟨he, by rw [hk]; exact frDrewN _ _⟩
  have E2 : Hid (∀ W, Fr w W → Calls Tryz.prog 23 #[.slice B m e, .slice B2 m2 e2] W fun e w' => e = .returned (.bool d2) ∧ Fr W w') := fun W hf => by rw [hd2]; exact (equalBytes_any W _ _ B B2 m e m2 e2 _ _ (hB.2.go sByte hf) (hB2.2.go sByte hf) hnb).mono fun e w' ⟨he, k, hk⟩ => ⟨he, by rw [hk]; exact frDrewN _ _⟩
  (obtain ⟨bp0, bp1⟩ := box2_ hp1)
  (obtain ⟨bq0, bq1⟩ := box2_ hq1)
  clear hp1 hq1 hA hB hA2 hB2 hna hnb hd1 hd2
  go_enter Tryz.func11, Tryz.ntmps11
  go_upto_region 1 with fail
  rw [← hW1, ← hq, ← hp]
  clear hW1 hp hq
  go_wp2_with fail
  (with_reducible refine (E1.out _ HF1.out).mono ?_)
  rintro r w2 ⟨rfl, hf2⟩
  have HF2 : Hid (Fr w w2) := HF1.out.trans hf2
  have hp2 := blk_go HP1.out hf2
  have hq2 := blk_go HQ1.out hf2
  clear hf2 bp0 bp1 bq0 bq1
  (obtain ⟨bp0, bp1⟩ := box2_ hp2)
  (obtain ⟨bq0, bq1⟩ := box2_ hq2)
  clear hp2 hq2
  cases d1 with
  | false =>
    go_wp2_with fail
    go_ret
    exact ⟨by rw [HD.out]; rfl, HF2.out⟩
  | true =>
    go_wp2_with fail
    (with_reducible refine (E2.out _ HF2.out).mono ?_)
    rintro r w3 ⟨rfl, hf3⟩
    have HF3 : Hid (Fr w w3) := HF2.out.trans hf3
    clear hf3
    go_wp2_with fail
    go_ret
    exact ⟨by rw [HD.out]; simp, HF3.out⟩
end Go.Proofs.YtbincgbgeccccaaGreatDoor
namespace Go.Proofs.YtbincgbgeccccaaGreatDoor
open Go.RowKit
attribute [local irreducible] wpList

set_option maxRecDepth 100000 in
set_option maxHeartbeats 8000000 in
theorem diskCrash_any (w : World) (v : Vars w) (d : Dk) (A : Option Addr) (n c : Nat) (B : Option Addr) (m e : Nat) (hA : Byt w (LT w.heap.size) A n c d.safe) (hB : Byt w (LT w.heap.size) B m e d.wait) (k : Int) :
    Calls Tryz.prog 6 #[.agg #[.slice A n c, .slice B m e], .int .i64 k] w (KPost w (crashF d k)) := by
  obtain ⟨X, hX⟩ : ∃ X, X = crashF d k := ⟨_, rfl⟩
  rw [← hX]
  have hl := hA.2.1
  have hl2 := hB.2.1
  obtain ⟨W1, hW1⟩ : ∃ W1, W1 = (w.alloc (.cells #[.slice A n c, .slice B m e] 24)).alloc (.cells #[.slice none 0 0, .slice none 0 0] 24) := ⟨_, rfl⟩
  obtain ⟨p, hp⟩ : ∃ p, p = w.heap.size := ⟨_, rfl⟩
  obtain ⟨q, hq⟩ : ∃ q, q = w.heap.size + 1 := ⟨_, rfl⟩
  have hp1 : W1.heap[p]? = some (.cells #[.slice A n c, .slice B m e] 24 (0, 0)) := by rw [hW1]; exact heap_old (heap_new hp)
  have hq1 : W1.heap[q]? = some (.cells #[.slice none 0 0, .slice none 0 0] 24 (0, 0)) := by rw [hW1]; exact heap_new (by rw [hq]; simp)
  have HF1 : Hid (Fr w W1) := by rw [hW1]; exact (frAlloc _ _).trans (frAlloc _ _)
  have HQW := Lib.hid hq
  have HP1 := Lib.hid hp1
  have HQ1 := Lib.hid hq1
  obtain ⟨ck, hck⟩ : ∃ ck, ck = diskCheck d := ⟨_, rfl⟩
  have CK : Hid (Calls Tryz.prog 10 #[.agg #[.slice A n c, .slice B m e]] W1 fun r w' => r = .returned (.int .i64 ck) ∧ Fr W1 w') := by rw [hck]; exact diskCheck_any W1 (v.go HF1.out) d A n c B m e (hA.go HF1.out) (hB.go HF1.out)
  have HV := Lib.hid v
  have HA := Lib.hid hA
  have HB := Lib.hid hB
  have HX := Lib.hid hX
  have HCK := Lib.hid hck
  (obtain ⟨bp0, bp1⟩ := box2_ hp1)
  clear hp1 hq1 hA hB hX hck v
  go_enter Tryz.func6, Tryz.ntmps6
  go_upto_region 1 with fail
  rw [← hW1, ← hq, ← hp]
  have NE : q ≠ p := by omega
  clear hW1 hp hq
  go_wp2_with fail
  (with_reducible refine (CK.out).mono ?_)
  rintro r w2 ⟨rfl, hf2⟩
  have HF2 : Hid (Fr w w2) := HF1.out.trans hf2
  have HP2 := Lib.hid (blk_go HP1.out hf2)
  have HQ2 := Lib.hid (blk_go HQ1.out hf2)
  clear hf2 CK HF1 HP1 HQ1 bp0 bp1
  by_cases h1 : ck = 0
  case neg =>
    have t1 : (ck != 0) = true := by simp [h1]
    have hx : Hid (X = (Dk.zero, ck)) := HX.out.trans (by unfold crashF; rw [← HCK.out, if_pos h1])
    have hqx := HQ2.out
    (obtain ⟨bq0, bq1⟩ := box2_ hqx)
    have y0 := blk_free (i := 0) hqx
    have y1 := blk_free (i := 1) hqx
    have lq := (Array.getElem?_eq_some_iff.1 hqx).1
    clear h1 hqx
    go_wp2_with fail
    refine bodyPost_ret (v := .tuple #[.agg #[.slice none 0 0, .slice none 0 0], .int .i64 ck]) ?_ rfl (kpost_err hx.out (bel2_ HF2.out (by have := HQW.out; omega)))
    simp [results, Tryz.results6, go_sem, bq0, bq1, lq]
  case pos =>
  have t1 : (ck != 0) = false := by simp [h1]
  have HX2 : Hid (X = if k < 0 ∨ (d.wait.length : Int) < k then (Dk.zero, 3) else (⟨d.safe, d.wait.take k.toNat⟩, 0)) := HX.out.trans (by unfold crashF; rw [← HCK.out, if_neg (by simp [h1])])
  rw [hl2] at HX2
  have hpx := HP2.out
  have hqx := HQ2.out
  (obtain ⟨bp0, bp1⟩ := box2_ hpx)
  (obtain ⟨bq0, bq1⟩ := box2_ hqx)
  have y0 := blk_free (i := 0) hqx
  have y1 := blk_free (i := 1) hqx
  have lq := (Array.getElem?_eq_some_iff.1 hqx).1
  clear h1 HX HCK
  by_cases h2 : k < 0
  · have t2 : decide (k < 0) = true := by simp [h2]
    have hx : Hid (X = (Dk.zero, 3)) := HX2.out.trans (if_pos (.inl h2))
    clear h2 hqx hpx HX2
    go_wp2_with fail
    refine bodyPost_ret (v := .tuple #[.agg #[.slice none 0 0, .slice none 0 0], .int .i64 3]) ?_ rfl (kpost_err hx.out (bel2_ HF2.out (by have := HQW.out; omega)))
    simp [results, Tryz.results6, go_sem, bq0, bq1, lq]
  have t2 : decide (k < 0) = false := by simp [h2]
  by_cases h3 : (m : Int) < k
  · have t3 : decide ((m : Int) < k) = true := by simp [h3]
    have hx : Hid (X = (Dk.zero, 3)) := HX2.out.trans (if_pos (.inr h3))
    clear h2 h3 hqx hpx HX2
    go_wp2_with fail
    refine bodyPost_ret (v := .tuple #[.agg #[.slice none 0 0, .slice none 0 0], .int .i64 3]) ?_ rfl (kpost_err hx.out (bel2_ HF2.out (by have := HQW.out; omega)))
    simp [results, Tryz.results6, go_sem, bq0, bq1, lq]
  have t3 : decide ((m : Int) < k) = false := by simp [h3]
  obtain ⟨j, rfl⟩ := Int.eq_ofNat_of_zero_le (show 0 ≤ k by omega)
  have hx : Hid (X = (⟨d.safe, d.wait.take j⟩, 0)) := HX2.out.trans (by rw [if_neg (by omega), Int.toNat_natCast])
  have hjm : j ≤ m := by omega
  have C1 : Hid (∀ W, Fr w W → Calls Tryz.prog 19 #[.slice A n c] W fun r w' => ∃ u, r = .returned u ∧ Own 1 eByte w' W.heap.size 5 u d.safe ∧ Fr W w') := fun W hf => cloneBytes_any W A n c d.safe (HA.out.2.go sByte hf) HA.out.1.1
  have C2 : Hid (∀ W, Fr w W → Calls Tryz.prog 19 #[.slice B j e] W fun r w' => ∃ u, r = .returned u ∧ Own 1 eByte w' W.heap.size 5 u (d.wait.take j) ∧ Fr W w') := fun W hf => cloneBytes_any W B j e (d.wait.take j) ((HB.out.2.go sByte hf).pre hjm) (by have := HB.out.1.1; omega)
  have hje : j ≤ e := by have := HB.out.1; omega
  have i1 : (j : Int) ≤ (e : Int) := by omega
  have i2 : 0 ≤ (j : Int) := by omega
  clear h2 h3 HX2 hqx hpx bq0 bq1 y0 y1 lq
  go_wp2_with fail
  have hSC : Hid (∀ w', Fr w2 w' → w'.cell? ⟨p, 0, none⟩ = some (.slice A n c) ∧ w'.cell? ⟨p, 1, none⟩ = some (.slice B m e)) := fun w' hf => ⟨(hf.cell (World.block_lt_of_cell? w2 _ bp0)).trans bp0, (hf.cell (World.block_lt_of_cell? w2 _ bp1)).trans bp1⟩
  refine held_begin (n := 11) (bs := #[false, false, false, false, false, false, false, false, false, false, false]) rfl rfl (by kernel_rfl) (S := fun w' => w'.cell? ⟨p, 0, none⟩ = some (.slice A n c) ∧ w'.cell? ⟨p, 1, none⟩ = some (.slice B m e)) (hSC.out _ (Below.refl _ _).drew) (fun hHeld => ?_)
  ((first | refine held_sk (i := 0) ?_ | refine held_tk (i := 0) ?_); (first | refine held_sk (i := 1) ?_ | refine held_tk (i := 1) ?_); (first | refine held_sk (i := 3) ?_ | refine held_tk (i := 3) ?_); (first | refine held_sk (i := 4) ?_ | refine held_tk (i := 4) ?_); (first | refine held_sk (i := 5) ?_ | refine held_tk (i := 5) ?_); (first | refine held_sk (i := 6) ?_ | refine held_tk (i := 6) ?_))
  refine held_one (i := 2) rfl (by kernel_rfl) (fun K hK => ?_)
  go_simp
  go_at_call 19
  (with_reducible refine (C1.out _ HF2.out.drew).mono ?_)
  rintro r w4 ⟨u1, rfl, ho1, hf4⟩
  obtain ⟨A4, c4, rfl, hb4⟩ := ho1.byt (by rw [hl]; have := HA.out.1.1; omega)
  rw [hl] at hb4
  rw [hl]
  have hf24 : Fr w2 w4 := (Below.refl _ _).drew.trans hf4
  have HF4 : Hid (Fr w w4) := HF2.out.trans hf24
  have HB4 : Hid (Byt w4 (NW w2.heap.size w4.heap.size) A4 n c4 d.safe) := hb4
  clear ho1 hf4 hb4 C1
  (refine held_back hK (a' := ?hA29) (l' := ?hL29) ?ha29 ?hl29 (hSC.out _ hf24) (fun hHeld => ?hh29); (case ha29 => first | with_reducible rfl | (simp only [Act.put, hq1, hq2, hq3, Option.isNone, Bool.not_true, Bool.not_false]; (try with_reducible rfl))); (case hl29 => (simp only [Act.put, hq1, hq2, hq3, Option.isNone, Bool.not_true, Bool.not_false]; (try with_reducible rfl))); clear hK K)
  refine held_one (i := 7) rfl (by kernel_rfl) (fun K hK => ?_)
  go_simp
  go_at_call 19
  (with_reducible refine (C2.out _ HF4.out).mono ?_)
  rintro r w5 ⟨u2, rfl, ho2, hf5⟩
  have hlt : (d.wait.take j).length = j := by rw [List.length_take]; omega
  obtain ⟨A5, c5, rfl, hb5⟩ := ho2.byt (by rw [hlt]; have := HB.out.1.1; omega)
  rw [hlt] at hb5
  rw [hlt]
  have hf25 : Fr w2 w5 := hf24.trans hf5
  have HF5 : Hid (Fr w w5) := HF2.out.trans hf25
  have h24 := hf24.size
  have HB5 : Hid (Byt w5 (NW w2.heap.size w5.heap.size) A5 j c5 (d.wait.take j)) := ⟨hb5.1, hb5.2.more sByte fun x hx => ⟨Nat.le_trans h24 hx.1, hx.2⟩⟩
  have HB4' : Hid (Byt w5 (NW w2.heap.size w5.heap.size) A4 n c4 d.safe) := ⟨HB4.out.1, (HB4.out.2.keep sByte fun x hx => hf5.cell hx.2).more sByte fun x hx => ⟨hx.1, Nat.lt_of_lt_of_le hx.2 hf5.size⟩⟩
  have hqx := blk_go HQ2.out hf25
  have hpx := blk_go HP2.out hf25
  have hqw : q < w2.heap.size := (Array.getElem?_eq_some_iff.1 HQ2.out).1
  clear ho2 hf5 hb5 C2 hf24 HF4 HB4
  (refine held_back hK (a' := ?hA30) (l' := ?hL30) ?ha30 ?hl30 (hSC.out _ hf25) (fun hHeld => ?hh30); (case ha30 => first | with_reducible rfl | (simp only [Act.put, hq1, hq2, hq3, Option.isNone, Bool.not_true, Bool.not_false]; (try with_reducible rfl))); (case hl30 => (simp only [Act.put, hq1, hq2, hq3, Option.isNone, Bool.not_true, Bool.not_false]; (try with_reducible rfl))); clear hK K)
  ((first | refine held_sk (i := 8) ?_ | refine held_tk (i := 8) ?_))
  (obtain ⟨bq0, bq1⟩ := box2_ hqx)
  have y0 := blk_free (i := 0) hqx
  have y1 := blk_free (i := 1) hqx
  have lq := (Array.getElem?_eq_some_iff.1 hqx).1
  refine held_one (i := 9) rfl (by kernel_rfl) (fun K hK => ?_)
  go_simp
  (refine held_back hK (a' := ?hA31) (l' := ?hL31) ?ha31 ?hl31 (⟨(set2_far NE).trans (hSC.out _ hf25).1, (set2_far NE).trans (hSC.out _ hf25).2⟩) (fun hHeld => ?hh31); (case ha31 => first | with_reducible rfl | (simp only [Act.put, hq1, hq2, hq3, Option.isNone, Bool.not_true, Bool.not_false]; (try with_reducible rfl))); (case hl31 => (simp only [Act.put, hq1, hq2, hq3, Option.isNone, Bool.not_true, Bool.not_false]; (try with_reducible rfl))); clear hK K)
  ((first | refine held_sk (i := 10) ?_ | refine held_tk (i := 10) ?_))
  refine wpAnyH_done (by kernel_rfl) ?_ _
  have KEY : Hid (∀ W9, Chg (fun b => b = q) w5 W9 → Fr w W9 → KPost w X (.returned (.tuple #[.agg #[.slice A4 n c4, .slice A5 j c5], .int .i64 0])) W9) := by
    intro W9 hC hF
    have hs9 := hC.size
    have h2w := HF2.out.size
    have hkeep : ∀ {A : Option Addr} {n c : Nat} {l : List UInt8}, Byt w5 (NW w2.heap.size w5.heap.size) A n c l → Byt W9 (NW w.heap.size W9.heap.size) A n c l := fun h =>
      ⟨h.1, (h.2.chg sByte hC fun b hb => ⟨hb.2, fun e => by have e : b = q := e; have := hb.1; omega⟩).more sByte fun b hb => ⟨by have := hb.1; omega, by have := hb.2; omega⟩⟩
    rw [hx.out]
    exact ⟨A4, n, c4, A5, j, c5, rfl, hkeep HB4'.out, hkeep HB5.out, hF⟩
  clear hqx hpx
  go_wp2_with fail
  refine bodyPost_ret (v := .tuple #[.agg #[.slice A4 n c4, .slice A5 j c5], .int .i64 0]) ?_ rfl (KEY.out _ (Chg.of (grw2_ ⟨rfl, rfl, rfl, Nat.le_refl _, fun _ _ _ => rfl⟩)) (bel2_ HF5.out (by have := HQW.out; omega)))
  simp [results, Tryz.results6, go_sem, bq0, bq1, lq]
end Go.Proofs.YtbincgbgeccccaaGreatDoor
namespace Go.Proofs.YtbincgbgeccccaaGreatDoor
def fr (n : Int) : Rc := ⟨8, 0, n, 0, ⟨0, 0, 0, 0, 0, 0⟩, ⟨0, []⟩, []⟩
def ft : List UInt8 := [56, 32, 48, 32, 53, 32, 48, 32, 48, 32, 48, 32, 48, 32, 48, 32, 48, 32, 48, 32, 48, 32, 45, 32, 45, 10]
def ft6 : List UInt8 := [56, 32, 48, 32, 54, 32, 48, 32, 48, 32, 48, 32, 48, 32, 48, 32, 48, 32, 48, 32, 48, 32, 45, 32, 45, 10]
theorem fp1 : putF Dk.zero (fr 5) = (⟨[], ft⟩, 0) := by decide +kernel
theorem fp2 : syncF ⟨[], ft⟩ = (⟨ft, []⟩, 0) := by decide +kernel
theorem fp3 : putF ⟨ft, []⟩ (fr 6) = (⟨ft, ft6⟩, 0) := by decide +kernel
theorem fp4 : crashF ⟨ft, ft6⟩ 4 = (⟨ft, ft6.take 4⟩, 0) := by decide +kernel
theorem fp5 : recoverF ⟨ft, ft6.take 4⟩ = ((⟨ft, []⟩, [fr 5]), 0) := by decide +kernel
end Go.Proofs.YtbincgbgeccccaaGreatDoor
namespace Go.Proofs.YtbincgbgeccccaaGreatDoor
open Go.RowKit
attribute [local irreducible] wpList

/-- A disk laid over the one at p. -/
theorem DkAt.store {W w' : World} {p : Nat} {d : Dk} {u0 u1 : Value} {A : Option Addr} {n c : Nat} {B : Option Addr} {m e : Nat} (hp : W.heap[p]? = some (.cells #[u0, u1] 24 (0, 0))) (hf : Fr W w') (hA : Byt w' (NW W.heap.size w'.heap.size) A n c d.safe) (hB : Byt w' (NW W.heap.size w'.heap.size) B m e d.wait) :
    DkAt ((w'.setCell ⟨p, 0, none⟩ (.slice A n c)).setCell ⟨p, 1, none⟩ (.slice B m e)) p d := by
  have hp' := blk_go hp hf
  have hpw := (Array.getElem?_eq_some_iff.1 hp).1
  have hC : Chg (fun b => b = p) w' ((w'.setCell ⟨p, 0, none⟩ (.slice A n c)).setCell ⟨p, 1, none⟩ (.slice B m e)) := Chg.of (grw2_ ⟨rfl, rfl, rfl, Nat.le_refl _, fun _ _ _ => rfl⟩)
  have hs := hC.size
  have hk : ∀ {A' : Option Addr} {n' c' : Nat} {l : List UInt8}, Byt w' (NW W.heap.size w'.heap.size) A' n' c' l → Byt ((w'.setCell ⟨p, 0, none⟩ (.slice A n c)).setCell ⟨p, 1, none⟩ (.slice B m e)) (fun b => b < ((w'.setCell ⟨p, 0, none⟩ (.slice A n c)).setCell ⟨p, 1, none⟩ (.slice B m e)).heap.size ∧ b ≠ p) A' n' c' l := fun h =>
    ⟨h.1, (h.2.chg sByte hC fun b hb => ⟨hb.2, fun e => by have e : b = p := e; have := hb.1; omega⟩).more sByte fun b hb => ⟨by have := hb.2; omega, fun e => by have := hb.1; omega⟩⟩
  exact ⟨A, n, c, B, m, e, by simp [World.setCell, Array.getElem?_modify, hp'], hk hA, hk hB⟩
/-- A disk laid anew. -/
theorem DkAt.mk {w' : World} {N : Nat} {d : Dk} {A : Option Addr} {n c : Nat} {B : Option Addr} {m e : Nat} (hA : Byt w' (NW N w'.heap.size) A n c d.safe) (hB : Byt w' (NW N w'.heap.size) B m e d.wait) :
    DkAt (w'.alloc (.cells #[.slice A n c, .slice B m e] 24)) w'.heap.size d := by
  have hf : Fr w' (w'.alloc (.cells #[.slice A n c, .slice B m e] 24)) := frAlloc _ _
  have hs := hf.size
  have hk : ∀ {A' : Option Addr} {n' c' : Nat} {l : List UInt8}, Byt w' (NW N w'.heap.size) A' n' c' l → Byt (w'.alloc (.cells #[.slice A n c, .slice B m e] 24)) (fun b => b < (w'.alloc (.cells #[.slice A n c, .slice B m e] 24)).heap.size ∧ b ≠ w'.heap.size) A' n' c' l := fun h =>
    ⟨h.1, (h.2.keep sByte fun x hx => hf.cell hx.2).more sByte fun b hb => ⟨Nat.lt_of_lt_of_le hb.2 hs, fun e => by have := hb.2; omega⟩⟩
  exact ⟨A, n, c, B, m, e, heap_new rfl, hk hA, hk hB⟩
theorem byt_lt {w : World} {p : Nat} {A : Option Addr} {n c : Nat} {l : List UInt8} (h : Byt w (fun b => b < w.heap.size ∧ b ≠ p) A n c l) : Byt w (LT w.heap.size) A n c l := ⟨h.1, h.2.more sByte fun b hb => hb.1⟩
theorem fr5_wf : (fr 5).wf := by simp [fr, Rc.wf, Hd.wf, wfI]; decide
theorem fr6_wf : (fr 6).wf := by simp [fr, Rc.wf, Hd.wf, wfI]; decide
set_option maxRecDepth 100000 in
set_option maxHeartbeats 8000000 in
theorem filed_any (w : World) (v : Vars w) : Calls Tryz.prog 9 #[] w fun r w' => r = .returned (.bool true) ∧ Fr w w' := by
  have P1 : Hid (Calls Tryz.prog 4 #[.agg #[.slice none 0 0, .slice none 0 0], .agg #[.int .i64 8, .int .i64 0, .int .i64 5, .int .i64 0, .int .i64 0, .int .i64 0, .int .i64 0, .int .i64 0, .int .i64 0, .int .i64 0, .int .i64 0, .slice none 0 0, .slice none 0 0]] w (KPost w (⟨[], ft⟩, 0))) := by
    rw [← fp1]
    exact diskPut_any w v Dk.zero (fr 5) none 0 0 none 0 0 none 0 0 none 0 0 byt_nil byt_nil fr5_wf byt_nil byt_nil
  have HV := Lib.hid v
  clear v
  go_enter Tryz.func9, Tryz.ntmps9
  go_wp2_with fail
  (with_reducible refine (P1.out).mono ?_)
  rintro r w2 hpost
  obtain ⟨A1, n1, c1, B1, m1, e1, rfl, hA1, hB1, hf2⟩ := hpost
  have HA := Lib.hid hA1
  have HB := Lib.hid hB1
  have HF := Lib.hid hf2
  clear hA1 hB1 hf2 P1
  go_upto_region 2 with fail
  have HD2 : Hid (DkAt (w2.alloc (.cells #[.slice A1 n1 c1, .slice B1 m1 e1] 24)) w2.heap.size ⟨[], ft⟩) := DkAt.mk HA.out HB.out
  have HF2 : Hid (Fr w (w2.alloc (.cells #[.slice A1 n1 c1, .slice B1 m1 e1] 24))) := HF.out.trans (frAlloc _ _)
  have hpN := HF.out.size
  obtain ⟨W2, hW2⟩ : ∃ W, W = w2.alloc (.cells #[.slice A1 n1 c1, .slice B1 m1 e1] 24) := ⟨_, rfl⟩
  obtain ⟨p, hp⟩ : ∃ p, p = w2.heap.size := ⟨_, rfl⟩
  rw [← hW2, ← hp]
  rw [← hW2, ← hp] at HD2
  rw [← hW2] at HF2
  rw [← hp] at hpN
  clear hW2 hp HA HB HF
  obtain ⟨A1, n1, c1, B1, m1, e1, hp1, ha1, hb1⟩ := HD2.out
  have HP1 := Lib.hid hp1
  have HA1 := Lib.hid (byt_lt ha1)
  have HB1 := Lib.hid (byt_lt hb1)
  (obtain ⟨bp0, bp1⟩ := box2_ hp1)
  clear ha1 hb1
  have CK : Hid (Calls Tryz.prog 5 #[.agg #[.slice A1 n1 c1, .slice B1 m1 e1]] W2 (KPost W2 (⟨ft, []⟩, 0))) := by rw [← fp2]; exact diskSync_any W2 (HV.out.go HF2.out) _ A1 n1 c1 B1 m1 e1 HA1.out HB1.out
  clear hp1
  go_wp2_with fail
  (with_reducible refine (CK.out).mono ?_)
  rintro r w3 hpost
  obtain ⟨A2, n2, c2, B2, m2, e2, rfl, hA2, hB2, hf3⟩ := hpost
  have HD3 : Hid (DkAt ((w3.setCell ⟨p, 0, none⟩ (.slice A2 n2 c2)).setCell ⟨p, 1, none⟩ (.slice B2 m2 e2)) p ⟨ft, []⟩) := DkAt.store HP1.out hf3 hA2 hB2
  have HF3 : Hid (Fr w ((w3.setCell ⟨p, 0, none⟩ (.slice A2 n2 c2)).setCell ⟨p, 1, none⟩ (.slice B2 m2 e2))) := bel2_ (Fr.trans HF2.out hf3) hpN
  have hp1 := blk_go HP1.out hf3
  clear bp0 bp1
  (obtain ⟨bp0, bp1⟩ := box2_ hp1)
  have y0 := blk_free (i := 0) hp1
  have y1 := blk_free (i := 1) hp1
  have lq := (Array.getElem?_eq_some_iff.1 hp1).1
  clear hA2 hB2 hf3 hp1 CK
  go_upto_region 3 with fail
  obtain ⟨W3, hw⟩ : ∃ W, W = (w3.setCell ⟨p, 0, none⟩ (.slice A2 n2 c2)).setCell ⟨p, 1, none⟩ (.slice B2 m2 e2) := ⟨_, rfl⟩
  rw [← hw]
  rw [← hw] at HD3 HF3
  clear hw y0 y1 lq bp0 bp1 HP1 HA1 HB1
  clear HD2 HF2
  obtain ⟨A1, n1, c1, B1, m1, e1, hp1, ha1, hb1⟩ := HD3.out
  have HP1 := Lib.hid hp1
  have HA1 := Lib.hid (byt_lt ha1)
  have HB1 := Lib.hid (byt_lt hb1)
  (obtain ⟨bp0, bp1⟩ := box2_ hp1)
  clear ha1 hb1
  have CK : Hid (Calls Tryz.prog 4 #[.agg #[.slice A1 n1 c1, .slice B1 m1 e1], .agg #[.int .i64 8, .int .i64 0, .int .i64 6, .int .i64 0, .int .i64 0, .int .i64 0, .int .i64 0, .int .i64 0, .int .i64 0, .int .i64 0, .int .i64 0, .slice none 0 0, .slice none 0 0]] W3 (KPost W3 (⟨ft, ft6⟩, 0))) := by
    rw [← fp3]
    exact diskPut_any W3 (HV.out.go HF3.out) ⟨ft, []⟩ (fr 6) A1 n1 c1 B1 m1 e1 none 0 0 none 0 0 HA1.out HB1.out fr6_wf byt_nil byt_nil
  have HF2 := HF3
  clear hp1 HD3 HF3
  go_wp2_with fail
  (with_reducible refine (CK.out).mono ?_)
  rintro r w3 hpost
  obtain ⟨A2, n2, c2, B2, m2, e2, rfl, hA2, hB2, hf3⟩ := hpost
  have HD3 : Hid (DkAt ((w3.setCell ⟨p, 0, none⟩ (.slice A2 n2 c2)).setCell ⟨p, 1, none⟩ (.slice B2 m2 e2)) p ⟨ft, ft6⟩) := DkAt.store HP1.out hf3 hA2 hB2
  have HF3 : Hid (Fr w ((w3.setCell ⟨p, 0, none⟩ (.slice A2 n2 c2)).setCell ⟨p, 1, none⟩ (.slice B2 m2 e2))) := bel2_ (Fr.trans HF2.out hf3) hpN
  have hp1 := blk_go HP1.out hf3
  clear bp0 bp1
  (obtain ⟨bp0, bp1⟩ := box2_ hp1)
  have y0 := blk_free (i := 0) hp1
  have y1 := blk_free (i := 1) hp1
  have lq := (Array.getElem?_eq_some_iff.1 hp1).1
  clear hA2 hB2 hf3 hp1 CK
  go_upto_region 4 with fail
  obtain ⟨W4, hw⟩ : ∃ W, W = (w3.setCell ⟨p, 0, none⟩ (.slice A2 n2 c2)).setCell ⟨p, 1, none⟩ (.slice B2 m2 e2) := ⟨_, rfl⟩
  rw [← hw]
  rw [← hw] at HD3 HF3
  clear hw y0 y1 lq bp0 bp1 HP1 HA1 HB1
  clear HF2 W3
  obtain ⟨A1, n1, c1, B1, m1, e1, hp1, ha1, hb1⟩ := HD3.out
  have HP1 := Lib.hid hp1
  have HA1 := Lib.hid (byt_lt ha1)
  have HB1 := Lib.hid (byt_lt hb1)
  (obtain ⟨bp0, bp1⟩ := box2_ hp1)
  clear ha1 hb1
  have CK : Hid (Calls Tryz.prog 6 #[.agg #[.slice A1 n1 c1, .slice B1 m1 e1], .int .i64 4] W4 (KPost W4 (⟨ft, ft6.take 4⟩, 0))) := by rw [← fp4]; exact diskCrash_any W4 (HV.out.go HF3.out) ⟨ft, ft6⟩ A1 n1 c1 B1 m1 e1 HA1.out HB1.out 4
  have HF2 := HF3
  clear hp1 HD3 HF3
  go_wp2_with fail
  (with_reducible refine (CK.out).mono ?_)
  rintro r w3 hpost
  obtain ⟨A2, n2, c2, B2, m2, e2, rfl, hA2, hB2, hf3⟩ := hpost
  have HD3 : Hid (DkAt ((w3.setCell ⟨p, 0, none⟩ (.slice A2 n2 c2)).setCell ⟨p, 1, none⟩ (.slice B2 m2 e2)) p ⟨ft, ft6.take 4⟩) := DkAt.store HP1.out hf3 hA2 hB2
  have HF3 : Hid (Fr w ((w3.setCell ⟨p, 0, none⟩ (.slice A2 n2 c2)).setCell ⟨p, 1, none⟩ (.slice B2 m2 e2))) := bel2_ (Fr.trans HF2.out hf3) hpN
  have hp1 := blk_go HP1.out hf3
  clear bp0 bp1
  (obtain ⟨bp0, bp1⟩ := box2_ hp1)
  have y0 := blk_free (i := 0) hp1
  have y1 := blk_free (i := 1) hp1
  have lq := (Array.getElem?_eq_some_iff.1 hp1).1
  clear hA2 hB2 hf3 hp1 CK
  go_upto_region 5 with fail
  obtain ⟨W5, hw⟩ : ∃ W, W = (w3.setCell ⟨p, 0, none⟩ (.slice A2 n2 c2)).setCell ⟨p, 1, none⟩ (.slice B2 m2 e2) := ⟨_, rfl⟩
  rw [← hw]
  rw [← hw] at HD3 HF3
  clear hw y0 y1 lq bp0 bp1 HP1 HA1 HB1
  clear HF2 W4
  obtain ⟨A1, n1, c1, B1, m1, e1, hp1, ha1, hb1⟩ := HD3.out
  have HP1 := Lib.hid hp1
  have HA1 := Lib.hid (byt_lt ha1)
  have HB1 := Lib.hid (byt_lt hb1)
  (obtain ⟨bp0, bp1⟩ := box2_ hp1)
  clear ha1 hb1
  have CK : Hid (Calls Tryz.prog 7 #[.agg #[.slice A1 n1 c1, .slice B1 m1 e1]] W5 (VPost W5 ((⟨ft, []⟩, [fr 5]), 0))) := by rw [← fp5]; exact diskRecover_any W5 (HV.out.go HF3.out) ⟨ft, ft6.take 4⟩ A1 n1 c1 B1 m1 e1 HA1.out HB1.out
  have HF2 := HF3
  clear hp1 HD3 HF3
  go_wp2_with fail
  (with_reducible refine (CK.out).mono ?_)
  rintro r w3 hpost
  obtain ⟨A2, n2, c2, u6, rfl, _, hA2, ho, hf3⟩ := hpost
  have hn2 : n2 = 26 := hA2.2.1.symm
  subst hn2
  have HD3 : Hid (DkAt ((w3.setCell ⟨p, 0, none⟩ (.slice A2 26 c2)).setCell ⟨p, 1, none⟩ (.slice none 0 0)) p ⟨ft, []⟩) := DkAt.store HP1.out hf3 hA2 byt_nil
  have HF3 : Hid (Fr w ((w3.setCell ⟨p, 0, none⟩ (.slice A2 26 c2)).setCell ⟨p, 1, none⟩ (.slice none 0 0))) := bel2_ (Fr.trans HF2.out hf3) hpN
  have hpw := (Array.getElem?_eq_some_iff.1 HP1.out).1
  have HO3 : Hid (Own 13 (eNew W5.heap.size eRc) ((w3.setCell ⟨p, 0, none⟩ (.slice A2 26 c2)).setCell ⟨p, 1, none⟩ (.slice none 0 0)) W5.heap.size 33 u6 [fr 5]) := ho.newChg sRc (Chg.of (g := p) (grw2_ ⟨rfl, rfl, rfl, Nat.le_refl _, fun _ _ _ => rfl⟩)) fun b e => by have e : b = p := e; omega
  have hp1 := blk_go HP1.out hf3
  clear bp0 bp1
  (obtain ⟨bp0, bp1⟩ := box2_ hp1)
  have y0 := blk_free (i := 0) hp1
  have y1 := blk_free (i := 1) hp1
  have lq := (Array.getElem?_eq_some_iff.1 hp1).1
  clear hA2 ho hf3 CK
  go_upto_region 6 with fail
  obtain ⟨W6, hw⟩ : ∃ W, W = (w3.setCell ⟨p, 0, none⟩ (.slice A2 26 c2)).setCell ⟨p, 1, none⟩ (.slice none 0 0) := ⟨_, rfl⟩
  rw [← hw]
  rw [← hw] at HD3 HF3 HO3
  clear bp0 bp1
  have hp6 : W6.heap[p]? = some (.cells #[.slice A2 26 c2, .slice none 0 0] 24 (0, 0)) := by rw [hw]; simp [World.setCell, Array.getElem?_modify, hp1]
  clear hw y0 y1 lq HP1 HA1 HB1
  obtain ⟨A7, c7, hv7, ⟨hac, hcm⟩, hs7⟩ := HO3.out.slN sRc (Nat.le_refl _)
  have hv7 : u6 = .slice A7 1 c7 := hv7
  have hac : 1 ≤ c7 := hac
  subst hv7
  obtain ⟨ad, rfl, hE⟩ := hs7.els (by decide)
  obtain ⟨x, hx, hrx⟩ := hE.row (show 0 < [fr 5].length by decide)
  obtain rfl : fr 5 = x := by simpa using hx
  obtain ⟨Ar, na, ca, Br, nb, cb, ⟨_, _, m2, _⟩, _⟩ := eRc_at hrx
  have m2 : W6.cell? ⟨ad.block, ad.off + 2, none⟩ = some (.int .i64 5) := by
    rw [show ad.add (0 * 13) = ad by simp [Addr.add]] at m2
    exact m2
  have ha8 : Byt W6 (fun b => b < W6.heap.size ∧ b ≠ p) A2 26 c2 ft := by
    obtain ⟨A8, n8, c8, B8, m8, e8, hp8, ha8, hb8⟩ := HD3.out
    have e := Option.some.inj (hp6.symm.trans hp8)
    simp at e
    obtain ⟨⟨q1, q2, q3⟩, _⟩ := e
    rw [← q1, ← q2, ← q3] at ha8
    exact ha8
  have hcv : (convert 22 9 (.slice A2 26 c2)).run Tryz.prog W6 = .ok (.string ⟨#[56, 32, 48, 32, 53, 32, 48, 32, 48, 32, 48, 32, 48, 32, 48, 32, 48, 32, 48, 32, 48, 32, 45, 32, 45, 10]⟩) W6 := conv_bytes W6 c2 ha8.2
  (obtain ⟨bp0, bp1⟩ := box2_ hp6)
  have HAC := Lib.hid hac
  clear hs7 hE hx hrx ha8 HD3 HO3 hp6 hcm
  go_wp2_with fail
  go_ret
  exact ⟨rfl, HF3.out⟩
end Go.Proofs.YtbincgbgeccccaaGreatDoor
