/- way.Take. No condition. -/
import Derived.Test.YtahkpbenebmmdaaWaySend
import Derived.Test.YtahkpbenebmmdaaBox2
set_option linter.unusedSimpArgs false
set_option linter.unusedVariables false
namespace Go.Proofs.Ytahkpbenebmmdaa
open Go.RowKit
attribute [local irreducible] wpList

def mlZero : Ml := ⟨0, 0, ⟨0, ⟨0, 0, 0, 0, 0, 0⟩, ⟨0, []⟩, 0, 0⟩⟩
def mlTake (ls : List Ml) (k : Int) (twice : Bool) : List Ml × Ml × Int :=
  if mlCheck ls ≠ 0 then ([], mlZero, mlCheck ls) else if k < 0 ∨ (ls.length : Int) ≤ k then ([], mlZero, 5) else (if twice then ls else ls.eraseIdx k.toNat, ls.getD k.toNat mlZero, 0)

theorem grown_alloc {w wr : World} {g : Nat} {o : Obj} (h : w.grownBy wr (some g)) : w.grownBy (wr.alloc o) (some g) :=
  ⟨h.os, h.tape, h.output, by simp; have := h.size; omega, fun k hk hne => by rw [Below.heap_alloc wr o k (Nat.lt_of_lt_of_le hk h.size)]; exact h.block k hk hne⟩
theorem grown_refl (w : World) (z : Option Nat) : w.grownBy w z := ⟨rfl, rfl, rfl, Nat.le_refl _, fun _ _ _ => rfl⟩
theorem OwnR.grown {α : Type} {size : Nat} {r : ERd α} {reg : Nat → Nat → Prop} {w w' : World} {base z : Nat} {e : TypeId} {v : Value} {xs : List α} (s : Stable size r) (h : OwnR size r reg w base e v xs) (hG : w.grownBy w' (some z)) (hz : z < base) (hreg : ∀ i b, reg i b → b ≠ z) : OwnR size r reg w' base e v xs := by
  obtain ⟨cs, ho, hr⟩ := h
  refine ⟨cs, ho.kept hG (.inr fun e1 => by have := (ho.lt z e1).1; omega), fun i x hx => s.more (fun b hb => ⟨hb.1, Nat.lt_of_lt_of_le hb.2.1 hG.size, hb.2.2⟩) (s.keep (fun p hp => World.cell?_of_block (hG.block p.block hp.2.1 (fun e => hreg i _ hp.1 (by injection e)))) (hr i x hx))⟩
theorem Byt.grown {w w' : World} {S : Nat → Prop} {z : Nat} {A : Option Addr} {n c : Nat} {l : List UInt8} (h : Byt w S A n c l) (hG : w.grownBy w' (some z)) (hS : ∀ b, S b → b < w.heap.size ∧ b ≠ z) : Byt w' (LT w'.heap.size) A n c l :=
  ⟨h.1, (h.2.keep sByte fun p hp => World.cell?_of_block (hG.block p.block (hS _ hp).1 (fun e => (hS _ hp).2 (by injection e)))).more sByte fun b hb => Nat.lt_of_lt_of_le (hS b hb).1 hG.size⟩

theorem grown_drew {w wr : World} {z : Option Nat} (h : w.grownBy wr z) : w.grownBy wr.drew z := ⟨h.os, h.tape, h.output, h.size, h.block⟩
theorem takeEnd {w w1 w3 w4 W' : World} {A5 : Option Addr} {n5 c5 : Nat} {v : Value} {x : Ml} {ls : List Ml} (HBY : Byt w4 (fun b => w3.heap.size ≤ b ∧ b < w4.heap.size) A5 n5 c5 x.f.s.data)
    (HO : OwnR 13 eMl (fun _ b => w1.heap.size ≤ b) w4 w1.heap.size 73 v ls) (hG : w4.grownBy W' (some w.heap.size)) (hB : Fr w W') (h1 : w.heap.size < w1.heap.size) (FB : ∀ b, w3.heap.size ≤ b ∧ b < w4.heap.size → b < w4.heap.size ∧ b ≠ w.heap.size) (FO : ∀ i b : Nat, w1.heap.size ≤ b → b ≠ w.heap.size) (FW : w.heap.size ≤ w1.heap.size) :
    ∃ v' A' n' c', Ending.returned (.tuple #[v, .agg #[.int .i64 x.frm, .int .i64 x.to, .int .i64 x.f.kind, .int .i64 x.f.h.frm, .int .i64 x.f.h.seq, .int .i64 x.f.h.to, .int .i64 x.f.h.till, .int .i64 x.f.h.bytes, .int .i64 x.f.h.block, .int .i64 x.f.s.id, .slice A5 n5 c5, .int .i64 x.f.n, .int .i64 x.f.try_], .int .i64 0]) = .returned (.tuple #[v', .agg #[.int .i64 x.frm, .int .i64 x.to, .int .i64 x.f.kind, .int .i64 x.f.h.frm, .int .i64 x.f.h.seq, .int .i64 x.f.h.to, .int .i64 x.f.h.till, .int .i64 x.f.h.bytes, .int .i64 x.f.h.block, .int .i64 x.f.s.id, .slice A' n' c', .int .i64 x.f.n, .int .i64 x.f.try_], .int .i64 0]) ∧ Byt W' (LT W'.heap.size) A' n' c' x.f.s.data ∧ Own 13 eMl W' w.heap.size 73 v' ls ∧ Fr w W' :=
  ⟨_, A5, n5, c5, rfl, HBY.grown hG FB, ((HO.grown sMl hG h1 FO).own sMl).lower FW, hB⟩

/-- One is taken out; what lies behind the others stays where it was. -/
theorem deleteMails_ownR (w : World) (base k : Nat) (reg : Nat → Prop) (v : Value) (xs : List Ml) (ho : OwnR 13 eMl (fun _ b => reg b) w base 73 v xs) (hk : k < xs.length) :
    Calls Try.prog 54 #[v, .int .i64 k, .int .i64 ((k : Int) + 1)] w fun e w' => ∃ v', e = .returned v' ∧ OwnR 13 eMl (fun _ b => reg b) w' base 73 v' (xs.eraseIdx k) ∧ w.grownBy w' v.ownBlock := by
  obtain ⟨g, cap, cs, rest, rfl, hbg, hg, hnc, hcm, hl, hall, h1, hr⟩ := ownR_row fMl (by decide) ho (by omega)
  refine (deleteMails_row w g xs.length cap k cs rest hg hl hall hnc hcm h1 hk).mono ?_
  rintro e w' ⟨rfl, ⟨more, hml, hg'⟩, hG⟩
  have hle : (xs.eraseIdx k).length = xs.length - 1 := by rw [List.length_eraseIdx, if_pos hk]
  have hcl : (cs.take (k * 13) ++ cs.drop ((k + 1) * 13)).length = (xs.eraseIdx k).length * 13 := by
    rw [List.length_append, List.length_take, List.length_drop, hle, hl, Nat.sub_mul]; omega
  refine ⟨_, rfl, ?_, hG⟩
  have := row_ownR (ys := xs.eraseIdx k) (reg := fun _ b => reg b) (w := w) (w' := w') (cap := cap) sMl hbg hg' hG (by omega) hcm hcl (by rw [hcl, hml, hle, Nat.sub_mul]; omega) fun i x hx => by
    obtain ⟨h2, hi⟩ := eraseIdx_get hx hk
    refine sMl.mono (fun j u hj hu => ?_) (hr _ x h2)
    rw [erase_get hl hk hj hi]; exact hu
  rw [hle] at this
  exact this

theorem byt_nil {w : World} {S : Nat → Prop} : Byt w S none 0 0 [] := ⟨⟨by simp, by omega, by unfold maxLen; omega⟩, Sl.nil⟩

set_option maxRecDepth 100000 in
set_option maxHeartbeats 1000000 in
theorem wayTake_err (w : World) (A : Option Addr) (n c : Nat) (ls : List Ml) (h : Sl 13 eMl w (LT w.heap.size) A n ls) (hm : n * 120 ≤ lim) (hc : n ≤ c) (hcm : c ≤ maxLen) (k : Int) (wk : wfI k) (twice : Bool) (hbad : mlCheck ls ≠ 0 ∨ k < 0 ∨ (n : Int) ≤ k) :
    Calls Try.prog 47 #[.slice A n c, .int .i64 k, .bool twice] w fun e w' => ∃ v A' n' c', e = .returned (.tuple #[v, .agg #[.int .i64 (mlTake ls k twice).2.1.frm, .int .i64 (mlTake ls k twice).2.1.to, .int .i64 (mlTake ls k twice).2.1.f.kind, .int .i64 (mlTake ls k twice).2.1.f.h.frm, .int .i64 (mlTake ls k twice).2.1.f.h.seq, .int .i64 (mlTake ls k twice).2.1.f.h.to, .int .i64 (mlTake ls k twice).2.1.f.h.till, .int .i64 (mlTake ls k twice).2.1.f.h.bytes, .int .i64 (mlTake ls k twice).2.1.f.h.block, .int .i64 (mlTake ls k twice).2.1.f.s.id, .slice A' n' c', .int .i64 (mlTake ls k twice).2.1.f.n, .int .i64 (mlTake ls k twice).2.1.f.try_], .int .i64 (mlTake ls k twice).2.2]) ∧ Byt w' (LT w'.heap.size) A' n' c' (mlTake ls k twice).2.1.f.s.data ∧ Own 13 eMl w' w.heap.size 73 v (mlTake ls k twice).1 ∧ Fr w w' := by
  have hnl : n ≤ lim := by omega
  have hlen := h.1
  by_cases h1 : mlCheck ls = 0
  · have CK := Lib.hid (fun W A n c hs hn => wayCheck_any W A n c ls hs hn)
    rw [h1] at CK
    by_cases hk : k < 0 ∨ (n : Int) ≤ k
    · have E : Hid (mlTake ls k twice = ([], mlZero, 5)) := by unfold mlTake Hid; rw [if_neg (by simp [h1]), if_pos (by rw [hlen]; exact hk)]
      (have H := Lib.hid h; clear h; have H1 := Lib.hid h1; clear h1; have Hlen := Lib.hid hlen; clear hlen; have Hm := Lib.hid hm; clear hm; have Hnl := Lib.hid hnl; clear hnl; have Hbad := Lib.hid hbad; clear hbad)
      by_cases hk0 : k < 0
      all_goals
        (try have hk1 : (n : Int) ≤ k := by omega)
        clear hk
        go_enter Try.func47, Try.ntmps47
        go_wp2_with fail
        (with_reducible refine (CK.out _ _ _ _ (H.out.go sMl (by (repeat' (first | exact Below.refl _ _ | refine below_drewN ?_ _ | refine Below.drew ?_ | refine frA ?_ _)))) Hnl.out).mono ?_)
        rintro e w1 ⟨rfl, hf1⟩
        have hbx : w1.heap[w.heap.size]? = some (.cells #[.int .i64 0, .int .i64 0, .int .i64 0, .int .i64 0, .int .i64 0, .int .i64 0, .int .i64 0, .int .i64 0, .int .i64 0, .int .i64 0, .slice none 0 0, .int .i64 0, .int .i64 0] 73 (0, 0)) := blk_go (heap_new rfl) hf1
        (obtain ⟨hb0, hb1, hb2, hb3, hb4, hb5, hb6, hb7, hb8, hb9, hb10, hb11, hb12⟩ := box13_ hbx)
        have hfz : ∀ i, w1.frozen? ⟨w.heap.size, i, none⟩ = false := fun i => blk_free hbx
        have HF1 : Hid (Fr w w1) := (frAlloc _ _).trans hf1
        clear hf1
        go_wp2_with fail
        refine bodyPost_ret (v := .tuple #[.slice none 0 0, .agg #[.int .i64 0, .int .i64 0, .int .i64 0, .int .i64 0, .int .i64 0, .int .i64 0, .int .i64 0, .int .i64 0, .int .i64 0, .int .i64 0, .slice none 0 0, .int .i64 0, .int .i64 0], .int .i64 5]) ?_ rfl ?_
        · simp [results, Try.results47, go_sem, hb0, hb1, hb2, hb3, hb4, hb5, hb6, hb7, hb8, hb9, hb10, hb11, hb12]
        · rw [E.out]
          exact ⟨_, none, 0, 0, rfl, byt_nil, Own.nil, bel13_ HF1.out (Nat.le_refl _)⟩
    · exact absurd hbad (by rintro (h | h) <;> first | exact h h1 | exact hk h)
  · have E : Hid (mlTake ls k twice = ([], mlZero, mlCheck ls)) := if_pos h1
    have e1 : (mlCheck ls != 0) = true := by simpa using h1
    (have H := Lib.hid h; clear h; have H1 := Lib.hid h1; clear h1; have Hlen := Lib.hid hlen; clear hlen; have Hm := Lib.hid hm; clear hm; have Hnl := Lib.hid hnl; clear hnl; have Hbad := Lib.hid hbad; clear hbad)
    go_enter Try.func47, Try.ntmps47
    go_wp2_with fail
    (with_reducible refine (wayCheck_any _ _ _ _ ls (H.out.go sMl (by (repeat' (first | exact Below.refl _ _ | refine below_drewN ?_ _ | refine Below.drew ?_ | refine frA ?_ _)))) Hnl.out).mono ?_)
    rintro e w1 ⟨rfl, hf1⟩
    have hbx : w1.heap[w.heap.size]? = some (.cells #[.int .i64 0, .int .i64 0, .int .i64 0, .int .i64 0, .int .i64 0, .int .i64 0, .int .i64 0, .int .i64 0, .int .i64 0, .int .i64 0, .slice none 0 0, .int .i64 0, .int .i64 0] 73 (0, 0)) := blk_go (heap_new rfl) hf1
    (obtain ⟨hb0, hb1, hb2, hb3, hb4, hb5, hb6, hb7, hb8, hb9, hb10, hb11, hb12⟩ := box13_ hbx)
    have hfz : ∀ i, w1.frozen? ⟨w.heap.size, i, none⟩ = false := fun i => blk_free hbx
    have HF1 : Hid (Fr w w1) := (frAlloc _ _).trans hf1
    clear hf1
    go_wp2_with fail
    refine bodyPost_ret (v := .tuple #[.slice none 0 0, .agg #[.int .i64 0, .int .i64 0, .int .i64 0, .int .i64 0, .int .i64 0, .int .i64 0, .int .i64 0, .int .i64 0, .int .i64 0, .int .i64 0, .slice none 0 0, .int .i64 0, .int .i64 0], .int .i64 (mlCheck ls)]) ?_ rfl ?_
    · simp [results, Try.results47, go_sem, hb0, hb1, hb2, hb3, hb4, hb5, hb6, hb7, hb8, hb9, hb10, hb11, hb12]
    · rw [E.out]
      exact ⟨_, none, 0, 0, rfl, byt_nil, Own.nil, bel13_ HF1.out (Nat.le_refl _)⟩
end Go.Proofs.Ytahkpbenebmmdaa
