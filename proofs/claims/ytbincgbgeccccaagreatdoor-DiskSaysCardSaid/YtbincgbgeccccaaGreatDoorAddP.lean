/- Plain laws: a symbol of two cargos, added. No condition; no program in sight. -/
import Derived.Test.YtbincgbgeccccaaGreatDoorCode
import Derived.Test.YtbincgbgeccccaaGreatDoorOwn
set_option linter.unusedSimpArgs false
set_option linter.unusedVariables false
namespace Go.Proofs.YtbincgbgeccccaaGreatDoor
open Go.RowKit

theorem zx_get (a b : List UInt8) (i : Nat) : (zx a b)[i]? = match a[i]?, b[i]? with | some x, some y => some (x ^^^ y) | _, _ => none := by
  unfold zx; rw [List.getElem?_zipWith]; cases a[i]? <;> cases b[i]? <;> rfl
theorem zx_four (u v x y : List UInt8) : zx (zx u v) (zx x y) = zx (zx u x) (zx v y) := by
  apply List.ext_getElem?
  intro i
  simp only [zx_get]
  cases u[i]? <;> cases v[i]? <;> cases x[i]? <;> cases y[i]? <;> simp
  rename_i a b c d
  ac_rfl
theorem zx_zeros : ∀ (n : Nat), zx (zeros n) (zeros n) = zeros n
  | 0 => rfl
  | n + 1 => by have := zx_zeros n; simp only [zx, zeros, List.replicate_succ, List.zipWith_cons_cons] at this ⊢; rw [this]; rfl
theorem zx_zero_left : ∀ (l : List UInt8), zx (zeros l.length) l = l
  | [] => rfl
  | x :: l => by have := zx_zero_left l; simp only [zx, zeros, List.length_cons, List.replicate_succ, List.zipWith_cons_cons] at this ⊢; rw [this]; simp
theorem foldl_zx : ∀ (X Y : List (List UInt8)) (u v : List UInt8), X.length = Y.length → (List.zipWith zx X Y).foldl zx (zx u v) = zx (X.foldl zx u) (Y.foldl zx v)
  | [], [], u, v, _ => rfl
  | x :: X, y :: Y, u, v, h => by
    rw [List.zipWith_cons_cons, List.foldl_cons, List.foldl_cons, List.foldl_cons, zx_four]
    exact foldl_zx X Y _ _ (by simpa using h)
theorem xorAll_zx (K : Nat) (X Y : List (List UInt8)) (h : X.length = Y.length) : xorAll K (List.zipWith zx X Y) = zx (xorAll K X) (xorAll K Y) := by
  unfold xorAll
  have := foldl_zx X Y (zeros K) (zeros K) h
  rw [zx_zeros] at this
  exact this
theorem sel_zip : ∀ (has : List Bool) (X Y : List (List UInt8)), X.length = Y.length → sel has (List.zipWith zx X Y) = List.zipWith zx (sel has X) (sel has Y)
  | [], X, Y, h => by simp [sel]
  | b :: has, [], [], h => by simp [sel]
  | b :: has, x :: X, y :: Y, h => by
    have ih := sel_zip has X Y (by simpa using h)
    unfold sel at ih ⊢
    cases b
    · simpa using ih
    · simpa using ih
theorem padTo_zx (K : Nat) (a b : List UInt8) (h : a.length = b.length) : padTo K (zx a b) = zx (padTo K a) (padTo K b) := by
  unfold padTo
  rw [length_zx h, ← h]
  have hz := zx_zeros (K - a.length)
  unfold zx zeros at *
  rw [List.zipWith_append h, hz]
theorem cutF_zx (K : Nat) : ∀ (f : Nat) (a b : List UInt8), a.length = b.length → cutF K f (zx a b) = List.zipWith zx (cutF K f a) (cutF K f b)
  | 0, a, b, h => by simp [cutF]
  | f + 1, a, b, h => by
    rw [cutF, cutF, cutF, length_zx h, ← h]
    split
    · rfl
    · have ih := cutF_zx K f (a.drop K) (b.drop K) (by simp [h])
      have hp := padTo_zx K (a.take K) (b.take K) (by simp [h])
      have e1 : (zx a b).drop K = zx (a.drop K) (b.drop K) := by unfold zx; rw [List.drop_zipWith]
      have e2 : (zx a b).take K = zx (a.take K) (b.take K) := by unfold zx; rw [List.take_zipWith]
      rw [e1, e2, ih, hp, List.zipWith_cons_cons]

theorem makeSym_err {B K id : Int} {c : List UInt8} (h : (makeSym B K c id).2 = 0) : cutCheck B K = 0 ∧ (c.length : Int) = B ∧ 0 ≤ id ∧ id ≤ 9999 := by
  unfold makeSym at h
  split at h
  · exact absurd h (by assumption)
  · rename_i h1
    obtain ⟨k1, k2⟩ := cutUp_err (by simpa using h1)
    split at h
    · exact absurd h (by assumption)
    · rename_i h2
      refine ⟨k1, k2, ?_⟩
      have h3 := Decidable.not_not.1 h2
      unfold pickOf at h3
      split at h3
      · omega
      · simp at h3

/-- The law, in plain words. -/
theorem makeSym_add {B K id : Int} {a b : List UInt8} (ha : (makeSym B K a id).2 = 0) (hb : (makeSym B K b id).2 = 0) :
    makeSym B K (zx a b) id = ((id, zx (makeSym B K a id).1.2 (makeSym B K b id).1.2), 0) ∧ a.length = b.length ∧ (makeSym B K a id).1.2.length = K.toNat ∧ (makeSym B K b id).1.2.length = K.toNat ∧ codeCheck B K id K.toNat = 0 ∧ (makeSym B K a id).1.1 = id ∧ 1 ≤ K.toNat ∧ K.toNat ≤ 16 := by
  obtain ⟨k1, k2, k3, k4⟩ := makeSym_err ha
  obtain ⟨_, k5, _, _⟩ := makeSym_err hb
  obtain ⟨⟨b1, b2⟩, ⟨b3, b4⟩, _⟩ := cutCheck_ok k1
  obtain ⟨B', rfl⟩ : ∃ n : Nat, B = n := ⟨B.toNat, by omega⟩
  obtain ⟨K', rfl⟩ : ∃ n : Nat, K = n := ⟨K.toNat, by omega⟩
  have hab : a.length = b.length := by omega
  have hlz : (zx a b).length = B' := by rw [length_zx hab]; omega
  rw [makeSym_ok (c := zx a b) k1 hlz ⟨k3, k4⟩, makeSym_ok (c := a) k1 (by omega) ⟨k3, k4⟩, makeSym_ok (c := b) k1 (by omega) ⟨k3, k4⟩]
  have hc := cutF_zx K' B' a b hab
  have l1 : (cutF K' B' a).length = (cutF K' B' b).length := by
    rw [cutF_length (by omega) _ _ (by omega), cutF_length (by omega) _ _ (by omega), hab]
  have l2 : (List.zipWith zx (cutF K' B' a) (cutF K' B' b)).length = (cutF K' B' a).length := by simp [l1]
  have hall : ∀ c : List UInt8, (xorAll K' (sel (pickHas id.toNat (cutF K' B' c).length) (cutF K' B' c))).length = K' := fun c => length_xorAll (fun l hl => cutF_all (by omega) B' c l (sel_mem hl)) (by simp [zeros])
  have hs : ∀ has : List Bool, (sel has (cutF K' B' a)).length = (sel has (cutF K' B' b)).length := by
    intro has
    unfold sel
    generalize cutF K' B' a = X at l1 ⊢
    generalize cutF K' B' b = Y at l1 ⊢
    induction has generalizing X Y with
    | nil => simp
    | cons c has ih =>
      cases X with
      | nil => cases Y with
        | nil => rfl
        | cons y Y => simp at l1
      | cons x X => cases Y with
        | nil => simp at l1
        | cons y Y =>
          have := ih X Y (by simpa using l1)
          cases c <;> simpa using this
  refine ⟨?_, hab, ?_, ?_, ?_, rfl, by omega, by omega⟩
  · rw [hc, l2, ← l1, sel_zip _ _ _ l1, xorAll_zx _ _ _ (hs _)]
  · simpa using hall a
  · simpa using hall b
  · unfold codeCheck
    rw [if_neg (by simp [k1]), if_neg (by omega), if_neg (by simp)]

theorem sumAdd_two {s t : List UInt8} {k : Nat} (h1 : s.length = k) (h2 : t.length = k) (h3 : 1 ≤ k) (h4 : k ≤ 16) : sumAdd [s, t] = (zx s t, 0) := by
  have hc : sumCheck [s, t] = 0 := by
    unfold sumCheck
    exact sumCheckFrom_of (by simp; omega) (by simp; omega) (by intro l hl; simp at hl ⊢; rcases hl with rfl | rfl <;> omega)
  unfold sumAdd
  rw [if_neg (by simp [hc]), if_neg (by simp)]
  simp only [xorAll, List.headD_cons, List.foldl_cons, List.foldl_nil, zx_zero_left]

/-- An own row of bytes, as its block. -/
theorem own_block {w : World} {base : Nat} {e : TypeId} {v : Value} {l : List UInt8} (h : Own 1 eByte w base e v l) (hn : 0 < l.length) :
    ∃ g cap rest, v = .slice (some ⟨g, 0, none⟩) l.length cap ∧ base ≤ g ∧ w.heap[g]? = some (.cells (l.map bV ++ rest).toArray e (0, 0)) ∧ l.length ≤ cap ∧ cap ≤ maxLen := by
  obtain ⟨cs, ho, hr⟩ := h
  have hlen := ho.1
  rcases ho.2 with ⟨rfl, h0⟩ | ⟨g, cap, cur, rfl, hbg, hg, hnc, hcm, hcs, htake⟩
  · omega
  · have hcs' : cs = l.map bV := by
      apply List.ext_getElem?
      intro i
      by_cases hi : i < l.length
      · have := hr i l[i] (List.getElem?_eq_getElem hi)
        have h2 : cs[i * 1 + 0]? = some (bV l[i]) := this
        simp only [Nat.mul_one, Nat.add_zero] at h2
        rw [h2, List.getElem?_map, List.getElem?_eq_getElem hi]; rfl
      · rw [List.getElem?_eq_none (by omega), List.getElem?_eq_none (by simp; omega)]
    refine ⟨g, cap, cur.toList.drop (l.length * 1), rfl, hbg, ?_, hnc, hcm⟩
    rw [hg, ← hcs', ← htake, List.take_append_drop]
end Go.Proofs.YtbincgbgeccccaaGreatDoor
