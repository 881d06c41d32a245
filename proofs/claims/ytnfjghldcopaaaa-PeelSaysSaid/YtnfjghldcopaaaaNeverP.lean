/- Plain laws: one byte turned, it is never the cargo; the first symbols are enough. No condition; no program in sight. -/
import Derived.Test.YtnfjghldcopaaaaDecF
set_option linter.unusedSimpArgs false
set_option linter.unusedVariables false
namespace Go.Proofs.Ytnfjghldcopaaaa

def flip0 (l : List UInt8) : List UInt8 := l.set 0 (l.getD 0 0 ^^^ 1)
def flipSm (s : Sm) : Sm := ⟨s.id, flip0 s.data⟩
theorem decodeF_ok {B K : Int} {xs : List Sm} {c : List UInt8} (h : decodeF B K xs = (c, 0)) : cutCheck B K = 0 ∧ (decRows (blocksOf B K).toNat B K [] xs).2 = 0 ∧ (blocksOf B K).toNat ≤ (decRows (blocksOf B K).toNat B K [] xs).1.length ∧ joinUp B K (knownF (blocksOf B K).toNat (decRows (blocksOf B K).toNat B K [] xs).1) = (c, 0) := by
  unfold decodeF at h
  split at h
  · rename_i h1; injection h with _ h; exact absurd h h1
  · rename_i h1
    split at h
    · cases h
    · split at h
      · rename_i h2; injection h with _ h; exact absurd h h2
      · rename_i h2
        split at h
        · cases h
        · rename_i h3
          simp only [ne_eq, Decidable.not_not] at h1 h2
          exact ⟨h1, h2, by omega, h⟩
theorem never_flip {B K : Nat} {c : List UInt8} {xs : List Sm} (h : SymsOk B K c xs) {k : Nat} {x : Sm} (hx : xs[k]? = some x) : decodeF B K (xs.set k (flipSm x)) ≠ (c, 0) := by
  intro e
  obtain ⟨h1, h2, h3, h4⟩ := decodeF_ok e
  obtain ⟨q1, q2, q3, hall, hK⟩ := cutF_facts h.cut h.len
  have hb : (blocksOf B K).toNat = (cutF K B c).length := by omega
  rw [hb] at h2 h3 h4
  obtain ⟨hm, _⟩ := decRows_made (B := (B : Int)) ⟨q1, q2⟩ hK _ [] [] (made_nil _ _) h2
  rw [List.nil_append] at hm
  obtain ⟨rows, hrows⟩ : ∃ rows, rows = (decRows (cutF K B c).length B K [] (xs.set k (flipSm x))).1 := ⟨_, rfl⟩
  rw [← hrows] at h3 h4 hm
  have hkn : knownF (cutF K B c).length rows = cutF K B c := by
    have := cut_join (B := (B : Int)) (K := (K : Int)) (ls := knownF (cutF K B c).length rows) (by rw [h4])
    rw [h4, cutUp_ok h.cut h.len] at this
    exact (Prod.ext_iff.1 this).1.symm
  have hrow : ∀ o ∈ rows, Hold (cutF K B c) (vc o) := fun o ho => by
    obtain ⟨j, ej, hl, hj⟩ := hm.sys.leads ho
    obtain ⟨o', ho', ej', hu⟩ := full_unit hm.sys h3 j hj
    have := hm.sys.ech.inj (List.mem_map.2 ⟨o, ho, rfl⟩) (List.mem_map.2 ⟨o', ho', rfl⟩) (by simp only [ej, ej'])
    have hvo : vc o = vc o' := (Prod.ext_iff.1 this).2
    obtain rfl := vc_inj (hm.sys.fit o ho) (hm.sys.fit o' ho') hvo
    have hd := known_mem hm.sys ho hu
    rw [hkn, ej, Int.toNat_natCast] at hd
    intro i
    rw [evf_unit i (cutF K B c) _ j hl.1 ((unit_iff ej).1 hu)]
    have : (cutF K B c).getD j [] = o.data := by rw [List.getD_eq_getElem?_getD, hd]; rfl
    rw [this]; rfl
  have hkl := (List.getElem?_eq_some_iff.1 hx).1
  have hxm : flipSm x ∈ xs.set k (flipSm x) := List.mem_of_getElem? (List.getElem?_set_self hkl)
  have hflip : Hold (cutF K B c) (vc (symRow (cutF K B c).length (flipSm x))) := Hold.span (fun g ⟨a, ha, e⟩ => by
    obtain ⟨o, ho, rfl⟩ := List.mem_map.1 ha
    rw [← e]; exact hrow o ho) ((hm.span _).2 (.of ⟨_, hxm, rfl⟩))
  obtain ⟨hf, hh, _⟩ := h.hold x (List.mem_of_getElem? hx)
  have e1 : (flip0 x.data).getD 0 0 = evf (cutF K B c) _ 0 := hflip 0
  have e2 : x.data.getD 0 0 = evf (cutF K B c) _ 0 := hh 0
  have hdl : 0 < x.data.length := by have := hf.2; have e : x.data.length = K := this; omega
  have e3 : (flip0 x.data).getD 0 0 = x.data.getD 0 0 ^^^ 1 := by
    unfold flip0
    rw [List.getD_eq_getElem?_getD, List.getElem?_set_self hdl]; rfl
  have e4 : x.data.getD 0 0 ^^^ 1 = x.data.getD 0 0 := by rw [← e3, e1]; exact e2.symm
  have e5 : x.data.getD 0 0 ^^^ (x.data.getD 0 0 ^^^ 1) = x.data.getD 0 0 ^^^ x.data.getD 0 0 := by rw [e4]
  rw [← UInt8.xor_assoc, UInt8.xor_self, UInt8.zero_xor] at e5
  cases e5
theorem decode_none {B K : Nat} {c : List UInt8} (h : SymsOk B K c []) : decodeF B K [] = ([], 8) := by
  obtain ⟨rows, hm, e⟩ := h.rows
  have hr : rows.length = 0 := by
    rcases Nat.eq_zero_or_pos rows.length with h0 | h0
    · exact h0
    · have := made_le hm (made_nil _ K) fun x hx => hx
      simpa using this
  rw [e, if_pos (by have := (cutF_facts h.cut h.len).1; omega)]
theorem symsOk_of {B K : Nat} {c : List UInt8} (h1 : cutCheck B K = 0) (h2 : c.length = B) (ids : List Int) : SymsOk B K c (symsOf B K c ids) := ⟨h1, h2, length_symsOf _ _ _ _, symsOf_ok h1 h2 ids⟩
/-- The first symbols, as many as there are blocks, are enough. -/
theorem enough_first {B K : Nat} {c : List UInt8} {xs : List Sm} (h : SymsOk B K c xs) (hall : ∀ k : Nat, k < (cutF K B c).length → ∃ x ∈ xs, x.id = (k : Int)) : decodeF B K xs = (c, 0) := by
  obtain ⟨rows, hm, e⟩ := h.rows
  obtain ⟨q1, q2, _⟩ := cutF_facts h.cut h.len
  have hlen : (cutF K B c).length ≤ rows.length := by
    have hn : (List.range (cutF K B c).length).Nodup := List.nodup_range
    have := nodup_le hn (m := (pl rows).map (·.1)) fun k hk => by
      have hk := List.mem_range.1 hk
      obtain ⟨x, hx, hid⟩ := hall k hk
      have hs : Sp (pl rows) (vc (symRow (cutF K B c).length x)) := (hm.span _).2 (.of ⟨x, hx, rfl⟩)
      have hl : Lead (vc (symRow (cutF K B c).length x)) k := by
        have hp : pickHas x.id.toNat (cutF K B c).length = (noHas (cutF K B c).length).set k true := by
          rw [hid, Int.toNat_natCast]; unfold pickHas; rw [if_pos hk]
        refine ⟨?_, fun j hj => ?_⟩
        · show (pickHas x.id.toNat (cutF K B c).length).getD k false = true
          rw [hp, List.getD_eq_getElem?_getD, List.getElem?_set_self (by simpa [noHas] using hk)]; rfl
        · show (pickHas x.id.toNat (cutF K B c).length).getD j false = false
          rw [hp, List.getD_eq_getElem?_getD, List.getElem?_set_ne (by omega)]
          unfold noHas
          rw [List.getElem?_replicate, if_pos (by omega)]; rfl
      obtain ⟨a, ha, ea⟩ := span_lead hm.sys.ech hs hl
      exact List.mem_map.2 ⟨a, ha, ea⟩
    simpa [pl] using this
  rw [e, if_neg (by omega)]
end Go.Proofs.Ytnfjghldcopaaaa
