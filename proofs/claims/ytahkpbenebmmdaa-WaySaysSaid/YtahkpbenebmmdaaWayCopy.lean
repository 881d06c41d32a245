/- way.Copy. No condition. -/
import Derived.Test.YtahkpbenebmmdaaWayCl
import Derived.Test.YtahkpbenebmmdaaOwnR
set_option linter.unusedSimpArgs false
set_option linter.unusedVariables false
namespace Go.Proofs.Ytahkpbenebmmdaa
open Go.RowKit
attribute [local irreducible] wpList

/-- Bytes of the call's own lie in blocks that it made. -/
theorem own_bytes {w : World} {base : Nat} {e : TypeId} {v : Value} {l : List UInt8} (h : Own 1 eByte w base e v l) : ∃ A c, v = .slice A l.length c ∧ (l.length ≤ c ∧ c ≤ maxLen) ∧ Sl 1 eByte w (NW base w.heap.size) A l.length l := by
  obtain ⟨cs, ho, hr⟩ := h
  rcases ho.2 with ⟨rfl, h0⟩ | ⟨g, cap, cur, rfl, hbg, hg, hnc, hcm, hcs, htake⟩
  · exact ⟨none, 0, by rw [h0], ⟨by omega, by unfold maxLen; omega⟩, rfl, fun hn => by omega⟩
  · refine ⟨some ⟨g, 0, none⟩, cap, rfl, ⟨hnc, hcm⟩, rfl, fun hn => ⟨_, rfl, ⟨hbg, (Array.getElem?_eq_some_iff.1 hg).1⟩, fun i x hx => ?_⟩⟩
    have hu : cs[i * 1 + 0]? = some (.int .u8 (x.toNat : Int)) := hr i x hx
    show w.cell? _ = _
    rw [zero_add_addr, cell_of_heap hg]
    rw [← htake, List.getElem?_take] at hu
    split at hu
    · simpa using hu
    · cases hu

set_option maxRecDepth 100000 in
set_option maxHeartbeats 1000000 in
theorem wayCopy_any (w : World) (A : Option Addr) (n c : Nat) (ls : List Ml) (h : Sl 13 eMl w (LT w.heap.size) A n ls) (hm : n * 120 ≤ lim) :
    Calls Try.prog 60 #[.slice A n c] w fun e w' => ∃ v, e = .returned v ∧ OwnR 13 eMl (fun _ b => w.heap.size ≤ b) w' w.heap.size 73 v ls ∧ Fr w w' := by
  have hlen := h.1
  have H := Lib.hid h
  have Hm := Lib.hid hm
  have hn1 : n ≤ 1172812402961 := by unfold lim at hm; omega
  clear h hm
  (have Hlen := Lib.hid hlen; clear hlen)
  go_enter Try.func60, Try.ntmps60
  go_wp2_with fail
  (with_reducible refine (cloneMails_any _ _ _ _ ls H.out Hm.out).mono ?_)
  rintro e w1 ⟨v, rfl, ho, hf1⟩
  obtain ⟨A1, c1, rfl, ⟨hc1, hm1⟩, hs1⟩ := ho.slC sMl (by decide)
  rw [Hlen.out] at hc1 hs1 ho ⊢
  (have Hf1 := Lib.hid hf1; clear hf1; have Ho := Lib.hid ho; clear ho; have Hs1 := Lib.hid hs1; clear hs1)
  go_wp2_with fail
  go_loopw [9] (fun i wr => ∃ k : Nat, k ≤ n ∧ i = .int .i64 k ∧ Hid (OwnR 13 eMl (fun i b => i < k → w.heap.size ≤ b) wr w.heap.size 73 (.slice A1 n c1) ls) ∧ Hid (Below w.heap.size w wr)) (fun i _ => n - (intOf i).toNat)
  case atStart => exact ⟨0, Nat.zero_le _, rfl, (Ho.out.ownR sMl).more sMl fun i b _ _ h => absurd h (by omega), Hf1⟩
  case round =>
    obtain ⟨k, hk, rfl, HO, HF⟩ := hrel
    by_cases hlt : k < n
    · obtain ⟨g, cap, cs, rest, e1, hbg, hg, _, _, hl, _, _, hr⟩ := ownR_row fMl (by decide) HO.out (by rw [Hlen.out]; omega)
      injection e1 with e2 e3 e4
      subst e2 e4
      obtain ⟨x, hx⟩ : ∃ x, ls[k]? = some x := ⟨_, List.getElem?_eq_getElem (by rw [Hlen.out]; exact hlt)⟩
      obtain ⟨A', n', c', hc, hw, hby⟩ := eMl_iff.1 (hr k x hx)
      have hcell : ∀ j u, cs[k * 13 + j]? = some u → wr.cell? ⟨g, k * 13 + j, none⟩ = some u := fun j u hu => cells_at hg hu
      obtain ⟨m0, m1, m2, m3, m4, m5, m6, m7, m8, m9, m10, m11, m12⟩ := hc
      have m0 := hcell _ _ m0
      have m1 := hcell _ _ m1
      have m2 := hcell _ _ m2
      have m3 := hcell _ _ m3
      have m4 := hcell _ _ m4
      have m5 := hcell _ _ m5
      have m6 := hcell _ _ m6
      have m7 := hcell _ _ m7
      have m8 := hcell _ _ m8
      have m9 := hcell _ _ m9
      have m10 := hcell _ _ m10
      have m11 := hcell _ _ m11
      have m12 := hcell _ _ m12
      simp only [Nat.add_zero] at m0
      have hgl : g < wr.heap.size := (Array.getElem?_eq_some_iff.1 hg).1
      have hby1 := hby.2.more (S' := LT wr.heap.size) sByte fun b hb => hb.2.1
      have hnb := hby.1.1
      clear hcell hr e3
      (have Hx := Lib.hid hx; clear hx; have Hg := Lib.hid hg; clear hg; have Hl := Lib.hid hl; clear hl; have Hw := Lib.hid hw; clear hw; have Hby := Lib.hid hby; clear hby; have Hby1 := Lib.hid hby1; clear hby1; have Hnb := Lib.hid hnb; clear hnb)
      go_wp2_with fail
      (with_reducible refine (cloneBlock_any _ _ _ _ x.f.s.data (Hby1.out.go sByte (frAlloc _ _)) Hnb.out).mono ?_)
      rintro e w2 ⟨v2, rfl, ho2, hf2⟩
      obtain ⟨A2, d2, rfl, hd2, hs2⟩ := own_bytes ho2
      have hdl : x.f.s.data.length = n' := Hby1.out.1
      rw [hdl] at hd2 hs2 ⊢
      have hF2 : Fr wr w2 := (frAlloc _ _).trans hf2
      have hm10 : w2.cell? ⟨g, k * 13 + 10, none⟩ = some (.slice A' n' c') := (hF2.cell (p := ⟨g, k * 13 + 10, none⟩) hgl).trans m10
      have hfz : w2.frozen? ⟨g, k * 13 + 10, none⟩ = false := blk_free (blk_go Hg.out hF2)
      have HO2 : Hid (OwnR 13 eMl (fun i b => i < k + 1 → w.heap.size ≤ b) (w2.setCell ⟨g, k * 13 + 10, none⟩ (.slice A2 n' d2)) w.heap.size 73 (.slice (some ⟨g, 0, none⟩) n c1) ls) := by
        have e5 : ls.set k x = ls := by
          apply List.ext_getElem?
          intro i
          rw [List.getElem?_set]
          split
          · rename_i h; subst h
            split
            · exact Hx.out.symm
            · rename_i h2; rw [List.getElem?_eq_none (by omega)]
          · rfl
        have key := ownR_set (j := 10) (u := .slice A2 n' d2) (x := x) (reg' := fun i b => i < k + 1 → w.heap.size ≤ b) sMl fMl (by decide) (HO.out.fr sMl hF2) hlt (by decide) rfl (fun i b hi h1 h2 => h1 (by omega)) fun f hf => by
          refine eMl_iff.2 ⟨A2, n', d2, ?_, Hw.out, ⟨Hnb.out, hd2⟩, hs2.more sByte fun b hb => ⟨fun _ => ?_, hb.2, ?_⟩⟩
          · have hk : ∀ j u, j < 13 → wr.cell? ⟨g, k * 13 + j, none⟩ = some u → f j = some u := fun j u hj hu => by rw [hf j hj]; exact (hF2.cell (p := ⟨g, k * 13 + j, none⟩) hgl).trans hu
            simp only [Nat.reduceEqDiff, ↓reduceIte]
            exact ⟨hk 0 _ (by decide) m0, hk 1 _ (by decide) m1, hk 2 _ (by decide) m2, hk 3 _ (by decide) m3, hk 4 _ (by decide) m4, hk 5 _ (by decide) m5, hk 6 _ (by decide) m6, hk 7 _ (by decide) m7, hk 8 _ (by decide) m8, hk 9 _ (by decide) m9, trivial, hk 11 _ (by decide) m11, hk 12 _ (by decide) m12⟩
          · have := hb.1
            have q := HF.out.size
            simp at this
            omega
          · have := hb.1
            simp at this
            omega
        rw [e5] at key
        exact key
      have HF2 : Hid (Below w.heap.size w (w2.setCell ⟨g, k * 13 + 10, none⟩ (.slice A2 n' d2))) := (HF.out.trans (hF2.mono HF.out.size)).setCell hbg _
      clear ho2 hf2 hs2 hdl m0 m1 m2 m3 m4 m5 m6 m7 m8 m9 m10 m11 m12 hF2
      go_wp2_with fail
      go_roundw
      case rel => exact ⟨k + 1, by omega, by go_num, HO2, HF2⟩
      case measure => simp [intOf]; omega
    · go_wp2_with fail
      go_ret
      exact ⟨_, rfl, HO.out.more sMl fun i b hi h1 => h1 (by have := Hlen.out; omega), HF.out⟩
end Go.Proofs.Ytahkpbenebmmdaa
