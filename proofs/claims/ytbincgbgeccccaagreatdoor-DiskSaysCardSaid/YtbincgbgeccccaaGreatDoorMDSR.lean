/- The reference's Recovered. Condition: the library's variables are laid. -/
import Derived.Test.YtbincgbgeccccaaGreatDoorMDSG
import Derived.Test.YtbincgbgeccccaaGreatDoorMDSF
import Derived.Deep.DeepCutAuto
import Derived.Deep.Cut
import Derived.Test.YtbincgbgeccccaaGreatDoorMDSH
import Derived.Test.YtbincgbgeccccaaGreatDoorEq
import Derived.Test.YtbincgbgeccccaaGreatDoorHeld
import Derived.Test.YtbincgbgeccccaaGreatDoorTextC
import Derived.Lib.AtoiErrMem
set_option linter.unusedSimpArgs false
set_option linter.unusedVariables false
namespace Go.Proofs.YtbincgbgeccccaaGreatDoor
open Go.RowKit
attribute [local irreducible] wpList

theorem pieces_count (c : UInt8) : ∀ l : List UInt8, (pieces c l).length ≤ l.length + 1
  | [] => by simp [pieces]
  | x :: l => by
    have ih := pieces_count c l
    unfold pieces
    split
    · simp only [List.length_cons]; omega
    · split
      · rename_i q qs hq
        rw [hq] at ih
        simp only [List.length_cons] at ih ⊢; omega
      · simp
theorem suffix_yes (p : List UInt8) (c : UInt8) : Lib.hasSuffix (p ++ [c]) [c] = true := by
  simp [Lib.hasSuffix]
theorem suffix_no {p : List UInt8} {c : UInt8} (h : c ∉ p) : Lib.hasSuffix p [c] = false := by
  by_cases hs : Lib.hasSuffix p [c] = true
  · exfalso
    simp [Lib.hasSuffix] at hs
    exact h (hs.subset (by simp))
  · simpa using hs
theorem str_cutLast (p : List UInt8) (c : UInt8) : (⟨(p ++ [c]).toArray⟩ : ByteArray).extract 0 p.length = ⟨p.toArray⟩ := by
  apply ByteArray.ext
  rw [ByteArray.data_extract]
  apply Array.ext'
  simp
set_option maxRecDepth 100000 in
set_option maxHeartbeats 16000000 in
theorem refLines_any (w : World) (v : Vars w) (s : List UInt8) (hs : s.length ≤ 60000) (most : Nat) (hm : most ≤ 200) :
    Calls Tryz.prog 22 #[sV s, .int .i64 most] w (LPost w (linesF most s)) := by
  obtain ⟨X, hX⟩ : ∃ X, X = linesF most s := ⟨_, rfl⟩
  rw [← hX]
  obtain ⟨PS, hPS⟩ : ∃ PS, PS = pieces 10 s := ⟨_, rfl⟩
  obtain ⟨TS, hTS⟩ : ∃ TS, TS = afters 10 PS := ⟨_, rfl⟩
  obtain ⟨PL, hPL⟩ : ∃ PL, PL = PS.length := ⟨_, rfl⟩
  obtain ⟨ad, had⟩ : ∃ ad : Addr, ad = ⟨w.heap.size, 0, none⟩ := ⟨_, rfl⟩
  obtain ⟨W2, hW2⟩ : ∃ W2, W2 = w.alloc (.cells (TS.map sV).toArray 9) := ⟨_, rfl⟩
  have SP : Hid (Calls Tryz.prog 34 #[sV s, sV [10]] w fun e w' => e = .returned (.slice (some ad) PL PL) ∧ w' = W2) := by
    rw [hPL, hPS, had, hW2, hTS, hPS]; exact splitAfter_any w v 10 s (by omega)
  have htl : TS.length = PL := by rw [hTS, afters_length, hPL]
  have hpos : 0 < PL := by rw [hPL, hPS]; exact List.length_pos_iff.2 (pieces_ne 10 s)
  have hcnt : PL ≤ 60001 := by have := pieces_count 10 s; rw [hPL, hPS]; omega
  have HSL : Hid (Sl 1 eStr W2 (LT W2.heap.size) (some ad) PL TS) := by
    have hb : W2.heap[w.heap.size]? = some (.cells (TS.map sV).toArray 9 (0, 0)) := by rw [hW2]; exact heap_new rfl
    have := Sl.litStrs (S := LT W2.heap.size) (n := PL) (xs := TS) hb (Array.getElem?_eq_some_iff.1 hb).1 htl rfl
    rw [had]; exact this
  have HF2 : Hid (Fr w W2) := by rw [hW2]; exact frAlloc _ _
  have hX0 : Hid (X = linesGo most [] 0 (PS.drop 0)) := by rw [Hid, hX, List.drop_zero, hPS]; rfl
  have HPL : Hid (∀ p ∈ PS, p.length ≤ 60000 ∧ (10 : UInt8) ∉ p) := fun p hp => by
    rw [hPS] at hp
    exact ⟨Nat.le_trans (piece_len 10 s p hp) hs, pieces_free 10 s p hp⟩
  have HPN := Lib.hid hPL
  have HTS := Lib.hid hTS
  have HV := Lib.hid v
  have h2w := HF2.out.size
  clear v hX hPS hTS hPL had hW2 htl
  go_enter Tryz.func22, Tryz.ntmps22
  go_wp2_with fail
  (with_reducible refine (SP.out).mono ?_)
  rintro e w2 ⟨rfl, hw2⟩
  rw [hw2]
  clear hw2 SP w2
  go_wp2_with fail
  go_loopw [7, 8, 16] (fun s7 s8 s16 wr => ∃ (k n : Nat) (acc : List Rc), k < PL ∧ s16 = .int .i64 k ∧ s8 = .int .i64 n ∧ n ≤ 60001 * k ∧ Hid (Own 13 (eNew W2.heap.size eRc) wr W2.heap.size 33 s7 acc) ∧ Hid (Fr W2 wr) ∧ acc.length ≤ most ∧ Hid (X = linesGo most acc n (PS.drop k))) (fun _ _ i _ => PL - (intOf i).toNat)
  case atStart => exact ⟨0, 0, [], hpos, rfl, rfl, by omega, Own.nil, Below.refl _ _, Nat.zero_le _, hX0⟩
  case round =>
    obtain ⟨k, n, acc, hk, rfl, rfl, hn, HO, HF, hal, HX⟩ := hrel
    clear hX0
    obtain ⟨A, c, rfl, ⟨hac, hcm⟩, _⟩ := HO.out.slC (sRc.newer _) (by decide)
    have HFr : Hid (Fr w wr) := HF2.out.trans HF.out
    have hE : Els 1 eStr wr (LT W2.heap.size) ad PL TS := by
      obtain ⟨ad', e, h⟩ := (HSL.out.keep sStr fun x hx => HF.out.cell hx).els hpos
      injection e with e
      subst e; exact h
    obtain ⟨T, hT, hct⟩ := hE.str hk
    obtain ⟨p, hp⟩ : ∃ p, PS[k]? = some p := ⟨_, List.getElem?_eq_getElem (by rw [← HPN.out]; exact hk)⟩
    obtain ⟨hpl, hpf⟩ := HPL.out p (List.mem_of_getElem? hp)
    have HOUT : Hid (∀ (c9 : Int) (w9 : World), Fr wr w9 → X = (acc, n, c9) → LPost w X (.returned (.tuple #[.slice A acc.length c, .int .i64 n, .int .i64 c9])) w9) := fun c9 w9 hf hx => by
      rw [hx]
      exact ⟨_, rfl, ((HO.out.fr (sRc.newer _) hf).newLe sRc h2w).lower h2w, HFr.out.trans hf⟩
    by_cases hlast : k + 1 = PL
    · have hTp : T = p := by
        have := afters_last 10 PS k p hp (by rw [← HPN.out]; exact hlast)
        rw [← HTS.out, hT] at this; injection this
      subst hTp
      have hxl : X = if T = [] then (acc, n, 0) else (acc, n, 9) := HX.out.trans (linesGo_end hp (by rw [← HPN.out]; exact hlast))
      by_cases hemp : T = []
      · have t1 : (T == []) = true := by simp [hemp]
        have hx : Hid (X = (acc, n, 0)) := hxl.trans (if_pos hemp)
        clear hemp hxl HX
        go_wp2_with fail
        refine bodyPost_ret (v := .tuple #[.slice A acc.length c, .int .i64 (n : Int), .int .i64 0]) ?_ rfl (HOUT.out 0 _ (Below.refl _ _) hx.out)
        simp [results, Tryz.results22, go_sem]
      · have t1 : (T == []) = false := by simp [hemp]
        have hx : Hid (X = (acc, n, 9)) := hxl.trans (if_neg hemp)
        have HS : Hid (Calls Tryz.prog 35 #[sV T, sV [10]] wr fun e w' => e = .returned (.bool false) ∧ w' = wr) := by
          have := Tryz.strings_HasSuffix ⟨T.toArray⟩ ⟨#[10]⟩ wr (by have := sV_size T; omega)
          rw [show Lib.hasSuffix (⟨T.toArray⟩ : ByteArray).data.toList (⟨#[10]⟩ : ByteArray).data.toList = false from suffix_no hpf] at this
          exact this
        clear hemp hxl HX
        go_wp2_with fail
        (with_reducible refine (HS.out).mono ?_)
        rintro e w4 ⟨rfl, rfl⟩
        go_wp2_with fail
        refine bodyPost_ret (v := .tuple #[.slice A acc.length c, .int .i64 (n : Int), .int .i64 9]) ?_ rfl (HOUT.out 9 _ (Below.refl _ _) hx.out)
        simp [results, Tryz.results22, go_sem]
    · have hk2 : k + 1 < PS.length := by rw [← HPN.out]; omega
      have hTp : T = p ++ [10] := by
        have := afters_at 10 PS k p hp hk2
        rw [← HTS.out, hT] at this; injection this
      have hTl : T.length = p.length + 1 := by rw [hTp, List.length_append]; rfl
      have hne : T ≠ [] := by rw [hTp]; simp
      have t1 : (T == []) = false := by simp [hne]
      have HS : Hid (Calls Tryz.prog 35 #[sV T, sV [10]] wr fun e w' => e = .returned (.bool true) ∧ w' = wr) := by
        have := Tryz.strings_HasSuffix ⟨T.toArray⟩ ⟨#[10]⟩ wr (by have := sV_size T; omega)
        rw [show Lib.hasSuffix (⟨T.toArray⟩ : ByteArray).data.toList (⟨#[10]⟩ : ByteArray).data.toList = true by rw [hTp]; exact suffix_yes p 10] at this
        exact this
      obtain ⟨x, xe, hps⟩ : ∃ x xe, parseF p = (x, xe) := ⟨_, _, rfl⟩
      have hrr : recRead p = (x, xe) := by rw [← hps]; unfold parseF; rw [if_neg (by omega)]
      have CP : Hid (Calls Tryz.prog 36 #[sV p] wr (RPost wr (x, xe))) := by rw [← hrr]; exact refRead_any wr (HV.out.go HFr.out) p hpl
      have HXB : Hid (X = if xe ≠ 0 then (acc, n, xe) else if acc.length = most then (acc, n, 2) else linesGo most (acc ++ [x]) (n + (p.length + 1)) (PS.drop (k + 1))) := by
        rw [Hid, HX.out, linesGo_step hp hk2, hps]
      have hext : (⟨T.toArray⟩ : ByteArray).extract 0 p.length = ⟨p.toArray⟩ := by rw [hTp]; exact str_cutLast p 10
      have HTL := Lib.hid hTl
      have HHP := Lib.hid hpl
      have i9 : IntKind.i64.wrap ((T.length : Int) - 1) = (p.length : Int) := by rw [IntKind.wrap_i64, hTl]; omega
      have i8 : (p.length : Int) ≤ (T.length : Int) := by omega
      clear hTp hne hps hrr hT HX hpf hTl hp
      go_wp2_with fail
      (with_reducible refine (HS.out).mono ?_)
      rintro e w4 ⟨rfl, hw4⟩
      rw [hw4]
      clear hw4 w4
      go_wp2_with fail
      (with_reducible refine (CP.out).mono ?_)
      rintro e w5 h5
      obtain ⟨D, nn, dc, D2, n2, dc2, rfl, hwx, hd, hd2, hf5⟩ := parse_outN h5
      have HF5 : Hid (Fr wr w5) := hf5
      have HO5 : Hid (Own 13 (eNew W2.heap.size eRc) w5 W2.heap.size 33 (.slice A acc.length c) acc) := HO.out.fr (sRc.newer _) hf5
      have HD := Lib.hid hd
      have HD2 := Lib.hid hd2
      have HWX := Lib.hid hwx
      have h4w : W2.heap.size ≤ wr.heap.size := HF.out.size
      have HFAR : Hid (∀ k, NW wr.heap.size w5.heap.size k → k < w5.heap.size ∧ (Value.slice A acc.length c).ownBlock ≠ some k ∧ W2.heap.size ≤ k) := by
        intro k hk
        refine ⟨hk.2, fun e => ?_, Nat.le_trans h4w hk.1⟩
        obtain ⟨cs, ho, _⟩ := HO.out
        have := (ho.lt k e).2
        have := hk.1
        omega
      clear h5 hwx hd hd2 hf5 CP HS hext i9 i8
      go_upto_region 10 with fail
      obtain ⟨y, hy⟩ : ∃ y, y = w5.heap.size := ⟨_, rfl⟩
      obtain ⟨W6, hW6⟩ : ∃ W6, W6 = w5.alloc (.cells #[.int .i64 x.kind, .int .i64 x.place, .int .i64 x.n, .int .i64 x.try_, .int .i64 x.h.frm, .int .i64 x.h.seq, .int .i64 x.h.to, .int .i64 x.h.till, .int .i64 x.h.bytes, .int .i64 x.h.block, .int .i64 x.s.id, .slice D nn dc, .slice D2 n2 dc2] 33) := ⟨_, rfl⟩
      rw [← hW6, ← hy]
      have hy6 : W6.heap[y]? = some (.cells #[.int .i64 x.kind, .int .i64 x.place, .int .i64 x.n, .int .i64 x.try_, .int .i64 x.h.frm, .int .i64 x.h.seq, .int .i64 x.h.to, .int .i64 x.h.till, .int .i64 x.h.bytes, .int .i64 x.h.block, .int .i64 x.s.id, .slice D nn dc, .slice D2 n2 dc2] 33 (0, 0)) := by rw [hW6]; exact heap_new hy
      have hf6 : Fr w5 W6 := by rw [hW6]; exact frAlloc _ _
      have HFR6 : Hid (Fr wr W6) := HF5.out.trans hf6
      have HF6 : Hid (Fr W2 W6) := HF.out.trans HFR6.out
      have HF56 := Lib.hid hf6
      have HO6 : Hid (Own 13 (eNew W2.heap.size eRc) W6 W2.heap.size 33 (.slice A acc.length c) acc) := HO5.out.fr (sRc.newer _) hf6
      clear hy hW6 hf6 HF5 HO5
      by_cases hxe : xe = 0
      case neg =>
        have t2 : (xe == 0) = false := by simp [hxe]
        have t3 : (xe != 0) = true := by simp [hxe]
        have hx : Hid (X = (acc, n, xe)) := HXB.out.trans (if_pos hxe)
        clear hxe HXB hy6
        go_wp2_with fail
        refine bodyPost_ret (v := .tuple #[.slice A acc.length c, .int .i64 (n : Int), .int .i64 xe]) ?_ rfl (HOUT.out xe _ HFR6.out hx.out)
        simp [results, Tryz.results22, go_sem]
      case pos =>
      have t2 : (xe == 0) = true := by simp [hxe]
      have t3 : (xe != 0) = false := by simp [hxe]
      have HXC := Lib.hid (HXB.out.trans (if_neg (fun h => h hxe)))
      clear hxe HXB
      by_cases hfull : acc.length = most
      case pos =>
        have t4 : decide (most ≤ acc.length) = true := by simp; omega
        have hx : Hid (X = (acc, n, 2)) := HXC.out.trans (if_pos hfull)
        clear hfull HXC hy6
        go_wp2_with fail
        refine bodyPost_ret (v := .tuple #[.slice A acc.length c, .int .i64 (n : Int), .int .i64 2]) ?_ rfl (HOUT.out 2 _ HFR6.out hx.out)
        simp [results, Tryz.results22, go_sem]
      case neg =>
      have t4 : decide (most ≤ acc.length) = false := by simp; omega
      have hx : Hid (X = linesGo most (acc ++ [x]) (n + (p.length + 1)) (PS.drop (k + 1))) := HXC.out.trans (if_neg hfull)
      have hrc : Hid (eNew W2.heap.size eRc W6 (fun b => b < W6.heap.size ∧ (Value.slice A acc.length c).ownBlock ≠ some b) (fun j => ([.int .i64 x.kind, .int .i64 x.place, .int .i64 x.n, .int .i64 x.try_, .int .i64 x.h.frm, .int .i64 x.h.seq, .int .i64 x.h.to, .int .i64 x.h.till, .int .i64 x.h.bytes, .int .i64 x.h.block, .int .i64 x.s.id, .slice D nn dc, .slice D2 n2 dc2] : List Value)[j]?) x) := by
        have hS6 := HF56.out.size
        have hk : ∀ {B : Option Addr} {n c' : Nat} {l : List UInt8}, Byt w5 (NW wr.heap.size w5.heap.size) B n c' l → Byt W6 (fun b => (b < W6.heap.size ∧ (Value.slice A acc.length c).ownBlock ≠ some b) ∧ W2.heap.size ≤ b) B n c' l := fun h =>
          ⟨h.1, (h.2.keep sByte fun p hp => HF56.out.cell hp.2).more sByte fun k hk => ⟨⟨Nat.lt_of_lt_of_le (HFAR.out k hk).1 hS6, (HFAR.out k hk).2.1⟩, (HFAR.out k hk).2.2⟩⟩
        exact eRc_cells HWX.out (hk HD.out) (hk HD2.out)
      have hLm : acc.length + 1 ≤ maxLen := by unfold maxLen; omega
      have hLs : (acc.length + 1) * 136 ≤ lim := by unfold lim; omega
      have hbb := HF6.out.size
      have hone : Hid (∀ u ∈ ([.int .i64 x.kind, .int .i64 x.place, .int .i64 x.n, .int .i64 x.try_, .int .i64 x.h.frm, .int .i64 x.h.seq, .int .i64 x.h.to, .int .i64 x.h.till, .int .i64 x.h.bytes, .int .i64 x.h.block, .int .i64 x.s.id, .slice D nn dc, .slice D2 n2 dc2] : List Value), u.oneCell' = true) := by simp [Hid, Value.oneCell']
      have hal2 : acc.length + 1 ≤ most := by omega
      have hkk : k + 1 < PL := by omega
      have hsum : IntKind.i64.wrap ((n : Int) + (T.length : Int)) = ((n + (p.length + 1) : Nat) : Int) := by rw [IntKind.wrap_i64, HTL.out]; omega
      have hnn : n + (p.length + 1) ≤ 60001 * (k + 1) := by have := HHP.out; omega
      (obtain ⟨by0, by1, by2, by3, by4, by5, by6, by7, by8, by9, by10, by11, by12⟩ := box13_ hy6)
      clear hfull HXC hy6 HD HD2 HWX HFAR HF56 HOUT HO hpl
      go_wp2_with (at_builtin; refine wpList_app1 rfl _ _ 39 rfl W2.heap.size 33 (.agg #[.int .i64 0, .int .i64 0, .int .i64 0, .int .i64 0, .int .i64 0, .int .i64 0, .int .i64 0, .int .i64 0, .int .i64 0, .int .i64 0, .int .i64 0, .slice none 0 0, .slice none 0 0]) 136 Tryz.underlying39 infoRec rfl (by decide) (sRc.newer _) W6 (frAlloc _ _) (.slice A acc.length c) acc rfl HO6.out W6.heap.size [.int .i64 x.kind, .int .i64 x.place, .int .i64 x.n, .int .i64 x.try_, .int .i64 x.h.frm, .int .i64 x.h.seq, .int .i64 x.h.to, .int .i64 x.h.till, .int .i64 x.h.bytes, .int .i64 x.h.block, .int .i64 x.s.id, .slice D nn dc, .slice D2 n2 dc2] 33 (0, 0) rfl (heap_new rfl) rfl hone.out x hrc.out hLm hLs W2.heap.size W2 HF6.out (Nat.le_refl _) hbb ?_)
      intro v' w7 HO7 HF7
      go_wp2_with fail
      go_roundw
      case rel => exact ⟨k + 1, n + (p.length + 1), acc ++ [x], hkk, by go_num, by first | exact congrArg _ hsum | rfl, hnn, HO7, HF7, by simpa using hal2, hx⟩
      case measure => simp [intOf]; omega
end Go.Proofs.YtbincgbgeccccaaGreatDoor
namespace Go.Proofs.YtbincgbgeccccaaGreatDoor
open Go.RowKit
attribute [local irreducible] wpList

set_option maxRecDepth 100000 in
set_option maxHeartbeats 8000000 in
theorem refCheckDisk_any (w : World) (v : Vars w) (d : Dk) (A : Option Addr) (n c : Nat) (B : Option Addr) (m e : Nat) (hA : Byt w (LT w.heap.size) A n c d.safe) (hB : Byt w (LT w.heap.size) B m e d.wait) :
    Calls Tryz.prog 8 #[.agg #[.slice A n c, .slice B m e]] w fun r w' => r = .returned (.int .i64 (diskCheck d)) ∧ Fr w w' := by
  obtain ⟨X, hX⟩ : ∃ X, X = diskCheck d := ⟨_, rfl⟩
  rw [← hX]
  have hl := hA.2.1
  have hl2 := hB.2.1
  have E := Lib.hid (diskCheck.eq_1 d)
  rw [hl, hl2, ← hX] at E
  obtain ⟨W1, hW1⟩ : ∃ W1, W1 = w.alloc (.cells #[.slice A n c, .slice B m e] 24) := ⟨_, rfl⟩
  obtain ⟨p, hp⟩ : ∃ p, p = w.heap.size := ⟨_, rfl⟩
  have hp1 : W1.heap[p]? = some (.cells #[.slice A n c, .slice B m e] 24 (0, 0)) := by rw [hW1]; exact heap_new hp
  have HF1 : Hid (Fr w W1) := by rw [hW1]; exact frAlloc _ _
  have hcv := conv_bytes W1 c (hA.2.go sByte HF1.out)
  have HV := Lib.hid v
  have HL := Lib.hid hl
  (obtain ⟨bp0, bp1⟩ := box2_ hp1)
  clear hp1 hA hB hl hl2 hX v
  go_enter Tryz.func8, Tryz.ntmps8
  go_upto_region 1 with fail
  rw [← hW1, ← hp]
  clear hW1 hp
  by_cases h1 : 60000 < n
  · have t1 : decide ((60000 : Int) < (n : Int)) = true := by simp; omega
    have hx : Hid (X = 2) := E.out.trans (if_pos (.inl h1))
    clear h1 hcv
    go_wp2_with fail
    go_ret
    exact ⟨retI hx.out.symm, HF1.out⟩
  have t1 : decide ((60000 : Int) < (n : Int)) = false := by simp; omega
  by_cases h2 : 60000 < n + m
  · have t2 : decide ((60000 : Int) - (n : Int) < (m : Int)) = true := by simp; omega
    have hx : Hid (X = 2) := E.out.trans (if_pos (.inr h2))
    have hw : IntKind.i64.wrap ((60000 : Int) - (n : Int)) = (60000 : Int) - (n : Int) := by rw [IntKind.wrap_i64]; omega
    clear h1 h2 hcv
    go_wp2_with fail
    go_ret
    exact ⟨retI hx.out.symm, HF1.out⟩
  have t2 : decide ((60000 : Int) - (n : Int) < (m : Int)) = false := by simp; omega
  have hw : IntKind.i64.wrap ((60000 : Int) - (n : Int)) = (60000 : Int) - (n : Int) := by rw [IntKind.wrap_i64]; omega
  obtain ⟨Y, hY⟩ : ∃ Y, Y = linesF 200 d.safe := ⟨_, rfl⟩
  have hx : Hid (X = Y.2.2) := E.out.trans (by rw [if_neg (by omega), hY])
  have LN : Hid (Calls Tryz.prog 22 #[sV d.safe, .int .i64 200] W1 (LPost W1 Y)) := by rw [hY]; exact refLines_any W1 (HV.out.go HF1.out) d.safe (by rw [HL.out]; omega) 200 (by omega)
  clear hY E h1 h2
  go_wp2_with fail
  (with_reducible refine (LN.out).mono ?_)
  rintro r w2 ⟨u, rfl, _, hf2⟩
  have HF2 : Hid (Fr w w2) := HF1.out.trans hf2
  clear hf2 LN
  go_wp2_with fail
  go_ret
  exact ⟨retI hx.out.symm, HF2.out⟩
set_option maxRecDepth 100000 in
set_option maxHeartbeats 8000000 in
theorem refSameDisk_any (w : World) (a b : Dk) (A : Option Addr) (n c : Nat) (B : Option Addr) (m e : Nat) (A2 : Option Addr) (n2 c2 : Nat) (B2 : Option Addr) (m2 e2 : Nat) (hA : Byt w (LT w.heap.size) A n c a.safe) (hB : Byt w (LT w.heap.size) B m e a.wait) (hA2 : Byt w (LT w.heap.size) A2 n2 c2 b.safe) (hB2 : Byt w (LT w.heap.size) B2 m2 e2 b.wait) :
    Calls Tryz.prog 12 #[.agg #[.slice A n c, .slice B m e], .agg #[.slice A2 n2 c2, .slice B2 m2 e2]] w fun r w' => r = .returned (.bool (decide (a = b))) ∧ Fr w w' := by
  obtain ⟨W1, hW1⟩ : ∃ W1, W1 = (w.alloc (.cells #[.slice A n c, .slice B m e] 24)).alloc (.cells #[.slice A2 n2 c2, .slice B2 m2 e2] 24) := ⟨_, rfl⟩
  obtain ⟨p, hp⟩ : ∃ p, p = w.heap.size := ⟨_, rfl⟩
  obtain ⟨q, hq⟩ : ∃ q, q = w.heap.size + 1 := ⟨_, rfl⟩
  have hp1 : W1.heap[p]? = some (.cells #[.slice A n c, .slice B m e] 24 (0, 0)) := by rw [hW1]; exact heap_old (heap_new hp)
  have hq1 : W1.heap[q]? = some (.cells #[.slice A2 n2 c2, .slice B2 m2 e2] 24 (0, 0)) := by rw [hW1]; exact heap_new (by rw [hq]; simp)
  have HF1 : Hid (Fr w W1) := by rw [hW1]; exact (frAlloc _ _).trans (frAlloc _ _)
  have HP1 := Lib.hid hp1
  have HQ1 := Lib.hid hq1
  have hna : n ≤ maxLen := by have := hA.1; omega
  have hnb : m ≤ maxLen := by have := hB.1; omega
  obtain ⟨d1, hd1⟩ : ∃ d1, d1 = decide (a.safe = b.safe) := ⟨_, rfl⟩
  obtain ⟨d2, hd2⟩ : ∃ d2, d2 = decide (a.wait = b.wait) := ⟨_, rfl⟩
  have HD : Hid (decide (a = b) = (d1 && d2)) := by
    rw [Hid, hd1, hd2]
    obtain ⟨_, _⟩ := a
    obtain ⟨_, _⟩ := b
    simp
  have E1 : Hid (∀ W, Fr w W → Calls Tryz.prog 23 #[.slice A n c, .slice A2 n2 c2] W fun e w' => e = .returned (.bool d1) ∧ Fr W w') := fun W hf => by rw [hd1]; exact (equalBytes_any W _ _ A A2 n c n2 c2 _ _ (hA.2.go sByte hf) (hA2.2.go sByte hf) hna).mono fun e w' ⟨he, k, hk⟩ => ⟨he, by rw [hk]; exact frDrewN _ _⟩
  have E2 : Hid (∀ W, Fr w W → Calls Tryz.prog 23 #[.slice B m e, .slice B2 m2 e2] W fun e w' => e = .returned (.bool d2) ∧ Fr W w') := fun W hf => by rw [hd2]; exact (equalBytes_any W _ _ B B2 m e m2 e2 _ _ (hB.2.go sByte hf) (hB2.2.go sByte hf) hnb).mono fun e w' ⟨he, k, hk⟩ => ⟨he, by rw [hk]; exact frDrewN _ _⟩
  (obtain ⟨bp0, bp1⟩ := box2_ hp1)
  (obtain ⟨bq0, bq1⟩ := box2_ hq1)
  clear hp1 hq1 hA hB hA2 hB2 hna hnb hd1 hd2
  go_enter Tryz.func12, Tryz.ntmps12
  go_upto_region 1 with fail
  rw [← hW1, ← hq, ← hp]
  clear hW1 hp hq
  go_wp2_with fail
  (with_reducible refine (E1.out _ HF1.out).mono ?_)
  rintro r w2 ⟨rfl, hf2⟩
  have HF2 : Hid (Fr w w2) := HF1.out.trans hf2
  have hp2 := blk_go HP1.out hf2
  have hq2 := blk_go HQ1.out hf2
  clear hf2 bp0 bp1 bq0 bq1
  (obtain ⟨bp0, bp1⟩ := box2_ hp2)
  (obtain ⟨bq0, bq1⟩ := box2_ hq2)
  clear hp2 hq2
  cases d1 with
  | false =>
    go_wp2_with fail
    go_ret
    exact ⟨by rw [HD.out]; rfl, HF2.out⟩
  | true =>
    go_wp2_with fail
    (with_reducible refine (E2.out _ HF2.out).mono ?_)
    rintro r w3 ⟨rfl, hf3⟩
    have HF3 : Hid (Fr w w3) := HF2.out.trans hf3
    clear hf3
    go_wp2_with fail
    go_ret
    exact ⟨by rw [HD.out]; simp, HF3.out⟩
set_option maxRecDepth 100000 in
set_option maxHeartbeats 8000000 in
theorem refSynced_any (w : World) (v : Vars w) (d : Dk) (A : Option Addr) (n c : Nat) (B : Option Addr) (m e : Nat) (hA : Byt w (LT w.heap.size) A n c d.safe) (hB : Byt w (LT w.heap.size) B m e d.wait) (hsz : n + m ≤ 60000) :
    Calls Tryz.prog 14 #[.agg #[.slice A n c, .slice B m e]] w (KPost w (syncR d)) := by
  obtain ⟨X, hX⟩ : ∃ X, X = syncR d := ⟨_, rfl⟩
  rw [← hX]
  have hl := hA.2.1
  have hl2 := hB.2.1
  obtain ⟨W1, hW1⟩ : ∃ W1, W1 = (w.alloc (.cells #[.slice A n c, .slice B m e] 24)).alloc (.cells #[.slice none 0 0, .slice none 0 0] 24) := ⟨_, rfl⟩
  obtain ⟨p, hp⟩ : ∃ p, p = w.heap.size := ⟨_, rfl⟩
  obtain ⟨q, hq⟩ : ∃ q, q = w.heap.size + 1 := ⟨_, rfl⟩
  have hp1 : W1.heap[p]? = some (.cells #[.slice A n c, .slice B m e] 24 (0, 0)) := by rw [hW1]; exact heap_old (heap_new hp)
  have hq1 : W1.heap[q]? = some (.cells #[.slice none 0 0, .slice none 0 0] 24 (0, 0)) := by rw [hW1]; exact heap_new (by rw [hq]; simp)
  have HF1 : Hid (Fr w W1) := by rw [hW1]; exact (frAlloc _ _).trans (frAlloc _ _)
  have HQW := Lib.hid hq
  have HPW := Lib.hid hp
  have HP1 := Lib.hid hp1
  have HQ1 := Lib.hid hq1
  have NE : p ≠ q := by omega
  have HX2 : Hid (X = if diskCheck ⟨d.safe ++ d.wait, []⟩ ≠ 0 then (Dk.zero, diskCheck ⟨d.safe ++ d.wait, []⟩) else (⟨d.safe ++ d.wait, []⟩, 0)) := by rw [Hid, hX]; rfl
  have HV := Lib.hid v
  have HA := Lib.hid hA
  have HB := Lib.hid hB
  (obtain ⟨bp0, bp1⟩ := box2_ hp1)
  clear hp1 hq1 hA hB hX v
  go_enter Tryz.func14, Tryz.ntmps14
  go_upto_region 1 with fail
  rw [← hW1, ← hq, ← hp]
  clear hW1 hp hq
  go_wp2_with fail
  obtain ⟨W3, hW3⟩ : ∃ W3, W3 = W1.alloc (.cells #[.slice A n c, .slice B m e] 22) := ⟨_, rfl⟩
  obtain ⟨y, hy⟩ : ∃ y, y = W1.heap.size := ⟨_, rfl⟩
  rw [← hW3, ← hy]
  have hy3 : W3.heap[y]? = some (.cells #[.slice A n c, .slice B m e] 22 (0, 0)) := by rw [hW3]; exact heap_new hy
  have hf3 : Fr W1 W3 := by rw [hW3]; exact frAlloc _ _
  have HF3 : Hid (Fr w W3) := HF1.out.trans hf3
  have HQ3 := Lib.hid (blk_go HQ1.out hf3)
  have HP3 := Lib.hid (blk_go HP1.out hf3)
  have CC : Hid (Calls Tryz.prog 20 #[.slice (some ⟨y, 0, none⟩) 2 2] W3 fun r w' => ∃ u, r = .returned u ∧ Own 1 eByte w' W3.heap.size 5 u (d.safe ++ d.wait) ∧ Fr W3 w') := by
    have hsl := sl_two hy3 (blk_LT hy3) (HA.out.go HF3.out) (HB.out.go HF3.out)
    have := concatDBytes_any W3 _ 2 2 _ hsl (by unfold lim; omega) (by simp [lens]; unfold lim; omega) (by simp [lens]; unfold lim; omega)
    rw [show ([d.safe, d.wait] : List (List UInt8)).flatten = d.safe ++ d.wait by simp] at this
    exact this
  clear hW3 hy hy3 hf3 HF1 HP1 HQ1 bp0 bp1
  (with_reducible refine (CC.out).mono ?_)
  rintro r w4 ⟨u, rfl, ho, hf4⟩
  have hlen : (d.safe ++ d.wait).length ≤ 60000 := by rw [List.length_append]; omega
  obtain ⟨A5, c5, rfl, hb5⟩ := ho.byt (by unfold lim; omega)
  obtain ⟨L, hL⟩ : ∃ L, L = d.safe ++ d.wait := ⟨_, rfl⟩
  obtain ⟨N, hN⟩ : ∃ N, N = L.length := ⟨_, rfl⟩
  rw [← hL, ← hN] at hb5
  rw [← hL, ← hN]
  rw [← hL] at HX2
  have HF4 : Hid (Fr w w4) := HF3.out.trans hf4
  have hq4 := blk_go HQ3.out hf4
  have hp4 := blk_go HP3.out hf4
  have h3w := HF3.out.size
  have hqw3 : q < W3.heap.size := (Array.getElem?_eq_some_iff.1 HQ3.out).1
  have hpw3 : p < W3.heap.size := (Array.getElem?_eq_some_iff.1 HP3.out).1
  have HQ4 := Lib.hid hq4
  have HP4 := Lib.hid hp4
  have HB5 := Lib.hid hb5
  have z0 := blk_free (i := 0) hp4
  have z1 := blk_free (i := 1) hp4
  have lp := (Array.getElem?_eq_some_iff.1 hp4).1
  (obtain ⟨bp0, bp1⟩ := box2_ hp4)
  clear ho hf4 CC hb5 HF3 HQ3 HP3 hlen hN hp4 hq4
  go_upto_region 2 with fail
  obtain ⟨W6, hW6⟩ : ∃ W6, W6 = (w4.setCell ⟨p, 0, none⟩ (.slice A5 N c5)).setCell ⟨p, 1, none⟩ (.slice none 0 0) := ⟨_, rfl⟩
  rw [← hW6]
  have hz6 : W6.heap[p]? = some (.cells #[.slice A5 N c5, .slice none 0 0] 24 (0, 0)) := by rw [hW6]; exact stor2_ HP4.out
  have HC6 : Hid (Chg (fun b => b = p) w4 W6) := by rw [hW6]; exact Chg.of (grw2_ ⟨rfl, rfl, rfl, Nat.le_refl _, fun _ _ _ => rfl⟩)
  have HF6 : Hid (Fr w W6) := by rw [hW6]; exact bel2_ HF4.out (by have := HPW.out; omega)
  have HQ6 := Lib.hid (HC6.out.blk HQ4.out (fun e => by have e : q = p := e; omega))
  have HZ6 := Lib.hid hz6
  have h46 := HC6.out.size
  have HB6 : Hid (Byt W6 (NW W3.heap.size W6.heap.size) A5 N c5 L) := ⟨HB5.out.1, (HB5.out.2.chg sByte HC6.out fun b hb => ⟨hb.2, fun e => by have e : b = p := e; have := hb.1; omega⟩).more sByte fun x hx => ⟨hx.1, Nat.lt_of_lt_of_le hx.2 h46⟩⟩
  obtain ⟨c2, hc2⟩ : ∃ c2, c2 = diskCheck ⟨L, []⟩ := ⟨_, rfl⟩
  rw [← hc2] at HX2
  have CK2 : Hid (Calls Tryz.prog 8 #[.agg #[.slice A5 N c5, .slice none 0 0]] W6 fun r w' => r = .returned (.int .i64 c2) ∧ Fr W6 w') := by rw [hc2]; exact refCheckDisk_any W6 (HV.out.go HF6.out) ⟨L, []⟩ A5 N c5 none 0 0 ⟨HB6.out.1, HB6.out.2.nw sByte⟩ byt_nil
  clear hW6 HF4 HQ4 HP4 HB5 hc2 hL bp0 bp1 z0 z1 lp HC6
  (obtain ⟨bz0, bz1⟩ := box2_ hz6)
  clear hz6
  go_wp2_with fail
  (with_reducible refine (CK2.out).mono ?_)
  rintro r w7 ⟨rfl, hf7⟩
  have HF7 : Hid (Fr w w7) := HF6.out.trans hf7
  have hqx := blk_go HQ6.out hf7
  have hzx := blk_go HZ6.out hf7
  have HF67 := Lib.hid hf7
  clear hf7 CK2 HF6 HQ6 HZ6 bz0 bz1
  (obtain ⟨bq0, bq1⟩ := box2_ hqx)
  (obtain ⟨bz0, bz1⟩ := box2_ hzx)
  have y0 := blk_free (i := 0) hqx
  have y1 := blk_free (i := 1) hqx
  have lq := (Array.getElem?_eq_some_iff.1 hqx).1
  by_cases h2 : c2 = 0
  case neg =>
    have t2 : (c2 != 0) = true := by simp [h2]
    have hx : Hid (X = (Dk.zero, c2)) := HX2.out.trans (if_pos h2)
    clear h2 hqx hzx
    go_wp2_with fail
    refine bodyPost_ret (v := .tuple #[.agg #[.slice none 0 0, .slice none 0 0], .int .i64 c2]) ?_ rfl (kpost_err hx.out (bel2_ HF7.out (by have := HQW.out; omega)))
    simp [results, Tryz.results14, go_sem, bq0, bq1, lq]
  case pos =>
  have t2 : (c2 != 0) = false := by simp [h2]
  have hx : Hid (X = (⟨L, []⟩, 0)) := HX2.out.trans (if_neg (by simp [h2]))
  have KEY : Hid (∀ W9, Chg (fun b => b = q) w7 W9 → Fr w W9 → KPost w X (.returned (.tuple #[.agg #[.slice A5 N c5, .slice none 0 0], .int .i64 0])) W9) := by
    intro W9 hC hF
    have hs := HF67.out.size
    have hs9 := hC.size
    rw [hx.out]
    refine ⟨A5, N, c5, none, 0, 0, rfl, ⟨HB6.out.1, ((HB6.out.2.keep sByte fun x hx => HF67.out.cell hx.2).chg sByte hC fun b hb => ⟨Nat.lt_of_lt_of_le hb.2 hs, fun e => by have e : b = q := e; have := hb.1; omega⟩).more sByte fun b hb => ⟨by have := hb.1; omega, by have := hb.2; omega⟩⟩, byt_nil, hF⟩
  clear h2 hqx hzx
  go_wp2_with fail
  refine bodyPost_ret (v := .tuple #[.agg #[.slice A5 N c5, .slice none 0 0], .int .i64 0]) ?_ rfl (KEY.out _ (Chg.of (grw2_ ⟨rfl, rfl, rfl, Nat.le_refl _, fun _ _ _ => rfl⟩)) (bel2_ HF7.out (by have := HQW.out; omega)))
  simp [results, Tryz.results14, go_sem, bq0, bq1, lq]
end Go.Proofs.YtbincgbgeccccaaGreatDoor
namespace Go.Proofs.YtbincgbgeccccaaGreatDoor
open Go.RowKit
attribute [local irreducible] wpList

theorem addr_at (b j : Nat) : (⟨b, 0, none⟩ : Addr).add j = ⟨b, j, none⟩ := by
  unfold Addr.add
  split
  · rename_i h; rw [h]
  · simp
/-- A string as bytes, in a new block. -/
theorem byt_conv (w : World) (e : TypeId) (l : List UInt8) (hl : l.length ≤ 1000000) : Byt (Lib.bytesWorld w e ⟨l.toArray⟩) (LT (Lib.bytesWorld w e ⟨l.toArray⟩).heap.size) (some ⟨w.heap.size, 0, none⟩) l.length (grownCap w l.length 0 e) l := by
  refine ⟨⟨by unfold lim; omega, grownCap_ge _ _ _ _, grownCap_le_maxLen _ _ _ _ (by unfold maxLen; omega)⟩, rfl, fun hn => ⟨_, rfl, ?_, fun i x hx => ?_⟩⟩
  · show w.heap.size < _
    rw [Lib.bytesWorld_size]; omega
  · have hi := (List.getElem?_eq_some_iff.1 hx).1
    simp only [eByte, Nat.mul_one, Nat.add_zero]
    rw [addr_at, Lib.bytesWorld_cell _ _ _ _ (by rw [sV_size]; exact hi), sV_data, List.getD_eq_getElem?_getD, hx]
    rfl
set_option maxRecDepth 100000 in
set_option maxHeartbeats 8000000 in
theorem refPutOn_any (w : World) (v : Vars w) (d : Dk) (r : Rc) (A : Option Addr) (n c : Nat) (B : Option Addr) (m e : Nat) (Ar : Option Addr) (na ca : Nat) (Br : Option Addr) (nb cb : Nat) (hA : Byt w (LT w.heap.size) A n c d.safe) (hB : Byt w (LT w.heap.size) B m e d.wait)
    (hw : r.wf) (hAr : Byt w (LT w.heap.size) Ar na ca r.s.data) (hBr : Byt w (LT w.heap.size) Br nb cb r.cargo) (hsz : n + m ≤ 60000) :
    Calls Tryz.prog 13 #[.agg #[.slice A n c, .slice B m e], .agg #[.int .i64 r.kind, .int .i64 r.place, .int .i64 r.n, .int .i64 r.try_, .int .i64 r.h.frm, .int .i64 r.h.seq, .int .i64 r.h.to, .int .i64 r.h.till, .int .i64 r.h.bytes, .int .i64 r.h.block, .int .i64 r.s.id, .slice Ar na ca, .slice Br nb cb]] w fun e' w' => ∃ A5 n5 c5 B5 m5 e5, e' = .returned (.tuple #[.agg #[.slice A5 n5 c5, .slice B5 m5 e5], .int .i64 (putR d r).2]) ∧ Byt w' (LT w'.heap.size) A5 n5 c5 (putR d r).1.safe ∧ Byt w' (LT w'.heap.size) B5 m5 e5 (putR d r).1.wait ∧ Fr w w' := by
  obtain ⟨X, hX⟩ : ∃ X, X = putR d r := ⟨_, rfl⟩
  rw [← hX]
  have hl := hA.2.1
  have hl2 := hB.2.1
  obtain ⟨W1, hW1⟩ : ∃ W1, W1 = ((w.alloc (.cells #[.slice A n c, .slice B m e] 24)).alloc (.cells #[.int .i64 r.kind, .int .i64 r.place, .int .i64 r.n, .int .i64 r.try_, .int .i64 r.h.frm, .int .i64 r.h.seq, .int .i64 r.h.to, .int .i64 r.h.till, .int .i64 r.h.bytes, .int .i64 r.h.block, .int .i64 r.s.id, .slice Ar na ca, .slice Br nb cb] 33)).alloc (.cells #[.slice none 0 0, .slice none 0 0] 24) := ⟨_, rfl⟩
  obtain ⟨p, hp⟩ : ∃ p, p = w.heap.size := ⟨_, rfl⟩
  obtain ⟨g, hg⟩ : ∃ g, g = w.heap.size + 1 := ⟨_, rfl⟩
  obtain ⟨q, hq⟩ : ∃ q, q = w.heap.size + 1 + 1 := ⟨_, rfl⟩
  have hp1 : W1.heap[p]? = some (.cells #[.slice A n c, .slice B m e] 24 (0, 0)) := by rw [hW1]; exact heap_old (heap_old (heap_new hp))
  have hg1 : W1.heap[g]? = some (.cells #[.int .i64 r.kind, .int .i64 r.place, .int .i64 r.n, .int .i64 r.try_, .int .i64 r.h.frm, .int .i64 r.h.seq, .int .i64 r.h.to, .int .i64 r.h.till, .int .i64 r.h.bytes, .int .i64 r.h.block, .int .i64 r.s.id, .slice Ar na ca, .slice Br nb cb] 33 (0, 0)) := by rw [hW1]; exact heap_old (heap_new (by rw [hg]; simp))
  have hq1 : W1.heap[q]? = some (.cells #[.slice none 0 0, .slice none 0 0] 24 (0, 0)) := by rw [hW1]; exact heap_new (by rw [hq]; simp)
  have HF1 : Hid (Fr w W1) := by rw [hW1]; exact ((frAlloc _ _).trans (frAlloc _ _)).trans (frAlloc _ _)
  have HQW := Lib.hid hq
  have HP1 := Lib.hid hp1
  have HQ1 := Lib.hid hq1
  have NE : q ≠ p := by omega
  obtain ⟨rk, hrk⟩ : ∃ rk, rk = recCheck r := ⟨_, rfl⟩
  obtain ⟨ps, hps⟩ : ∃ ps, ps = (printF r).1 := ⟨_, rfl⟩
  have hpr : printF r = (ps, rk) := by
    rw [hps]
    unfold printF
    split
    · rw [← hrk]
    · rename_i h0; have h0 : recCheck r = 0 := by simpa using h0
      rw [hrk, h0]
  have PR : Hid (Calls Tryz.prog 24 #[.agg #[.int .i64 r.kind, .int .i64 r.place, .int .i64 r.n, .int .i64 r.try_, .int .i64 r.h.frm, .int .i64 r.h.seq, .int .i64 r.h.to, .int .i64 r.h.till, .int .i64 r.h.bytes, .int .i64 r.h.block, .int .i64 r.s.id, .slice Ar na ca, .slice Br nb cb]] W1 fun e w' => e = .returned (.tuple #[sV ps, .int .i64 rk]) ∧ Fr W1 w') := by
    have := refText_any W1 (v.go HF1.out) r Ar na ca Br nb cb hw (hAr.go HF1.out) (hBr.go HF1.out)
    rw [hpr] at this
    exact this
  have HX2 : Hid (X = if rk ≠ 0 then (Dk.zero, rk) else if 60000 < d.safe.length + d.wait.length + (recText r).length + 1 then (Dk.zero, 2) else (⟨d.safe, d.wait ++ recText r ++ [10]⟩, 0)) := by rw [Hid, hX, hrk]; rfl
  have HA := Lib.hid hA
  have HB := Lib.hid hB
  have HRK := Lib.hid hrk
  have HPS := Lib.hid hps
  (obtain ⟨bx0, bx1, bx2, bx3, bx4, bx5, bx6, bx7, bx8, bx9, bx10, bx11, bx12⟩ := box13_ hg1)
  clear hp1 hq1 hg1 hA hB hAr hBr hw hX v hrk hps hpr
  go_enter Tryz.func13, Tryz.ntmps13
  go_upto_region 1 with fail
  rw [← hW1, ← hq, ← hg, ← hp]
  clear hW1 hp hq hg
  go_wp2_with fail
  (with_reducible refine (PR.out).mono ?_)
  rintro rr w4 ⟨rfl, hf4⟩
  have HF4 : Hid (Fr w w4) := HF1.out.trans hf4
  have HP4 := Lib.hid (blk_go HP1.out hf4)
  have HQ4 := Lib.hid (blk_go HQ1.out hf4)
  clear hf4 PR HF1 HP1 HQ1 bx0 bx1 bx2 bx3 bx4 bx5 bx6 bx7 bx8 bx9 bx10 bx11 bx12
  have hpx := HP4.out
  have hqx := HQ4.out
  (obtain ⟨bp0, bp1⟩ := box2_ hpx)
  (obtain ⟨bq0, bq1⟩ := box2_ hqx)
  have y0 := blk_free (i := 0) hqx
  have y1 := blk_free (i := 1) hqx
  have lq := (Array.getElem?_eq_some_iff.1 hqx).1
  have HERR : Hid (∀ (c9 : Int) (w9 : World), Fr w w9 → X = (Dk.zero, c9) → ∃ A5 n5 c5 B5 m5 e5, (Ending.returned (.tuple #[.agg #[.slice none 0 0, .slice none 0 0], .int .i64 c9])) = .returned (.tuple #[.agg #[.slice A5 n5 c5, .slice B5 m5 e5], .int .i64 X.2]) ∧ Byt w9 (LT w9.heap.size) A5 n5 c5 X.1.safe ∧ Byt w9 (LT w9.heap.size) B5 m5 e5 X.1.wait ∧ Fr w w9) := fun c9 w9 hf hx => by
    rw [hx]; exact ⟨none, 0, 0, none, 0, 0, rfl, byt_nil, byt_nil, hf⟩
  by_cases h2 : rk = 0
  case neg =>
    have t1 : (rk != 0) = true := by simp [h2]
    have hx : Hid (X = (Dk.zero, rk)) := HX2.out.trans (if_pos h2)
    clear h2 hqx hpx HX2
    go_wp2_with fail
    refine bodyPost_ret (v := .tuple #[.agg #[.slice none 0 0, .slice none 0 0], .int .i64 rk]) ?_ rfl (HERR.out rk _ (bel2_ HF4.out (by have := HQW.out; omega)) hx.out)
    simp [results, Tryz.results13, go_sem, bq0, bq1, lq]
  case pos =>
  have t1 : (rk != 0) = false := by simp [h2]
  have hpt : ps = recText r := by
    rw [HPS.out]
    unfold printF
    rw [if_neg (by rw [← HRK.out, h2]; simp)]
  have hpl : ps.length ≤ 10000 := by rw [hpt]; exact recText_len4 (HRK.out.symm.trans h2)
  obtain ⟨k, hk⟩ : ∃ k, k = ps.length := ⟨_, rfl⟩
  have HX3 : Hid (X = if 60000 < n + m + k + 1 then (Dk.zero, 2) else (⟨d.safe, d.wait ++ ps ++ [10]⟩, 0)) := HX2.out.trans (by rw [if_neg (by simp [h2]), hk, hpt, hl, hl2])
  rw [← hk] at hpl
  have hKs := Lib.hid hk
  clear h2 hpt HX2 HPS HRK
  have hw1 : IntKind.i64.wrap ((n : Int) + (m : Int)) = (n : Int) + (m : Int) := by rw [IntKind.wrap_i64]; omega
  have hw2 : IntKind.i64.wrap ((n : Int) + (m : Int) + (k : Int)) = (n : Int) + (m : Int) + (k : Int) := by rw [IntKind.wrap_i64]; omega
  have hw3 : IntKind.i64.wrap ((n : Int) + (m : Int) + (k : Int) + 1) = (n : Int) + (m : Int) + (k : Int) + 1 := by rw [IntKind.wrap_i64]; omega
  by_cases h3 : 60000 < n + m + k + 1
  · have t3 : decide ((60000 : Int) < (n : Int) + (m : Int) + (k : Int) + 1) = true := by simp; omega
    have hx : Hid (X = (Dk.zero, 2)) := HX3.out.trans (if_pos h3)
    rw [hk] at hw2 hw3 t3
    clear h3 hqx hpx HX3 hpl hk hsz
    go_wp2_with fail
    refine bodyPost_ret (v := .tuple #[.agg #[.slice none 0 0, .slice none 0 0], .int .i64 2]) ?_ rfl (HERR.out 2 _ (bel2_ HF4.out (by have := HQW.out; omega)) hx.out)
    simp [results, Tryz.results13, go_sem, bq0, bq1, lq]
  have t3 : decide ((60000 : Int) < (n : Int) + (m : Int) + (k : Int) + 1) = false := by simp; omega
  have hx : Hid (X = (⟨d.safe, d.wait ++ ps ++ [10]⟩, 0)) := HX3.out.trans (if_neg h3)
  have HLEN : Hid (n + m + k + 1 ≤ 60000) := by rw [Hid]; omega
  have i0 : ¬ 9223372036854775807 < ps.length + 1 := by omega
  rw [hk] at hw2 hw3 t3
  clear h3 hqx hpx HX3 hpl hk hsz bq0 bq1 y0 y1 lq HERR
  have hcv := fun W : World => Lib.run_convert_string_bytes (P := Tryz.prog) W 9 22 5 ⟨(ps ++ [10]).toArray⟩ Tryz.underlying9 Tryz.underlying22 Tryz.underlying5
  have hse := str_snoc ps 10
  have hSC : Hid (∀ w', Fr w4 w' → w'.cell? ⟨p, 0, none⟩ = some (.slice A n c) ∧ w'.cell? ⟨p, 1, none⟩ = some (.slice B m e)) := fun w' hf => ⟨(hf.cell (World.block_lt_of_cell? w4 _ bp0)).trans bp0, (hf.cell (World.block_lt_of_cell? w4 _ bp1)).trans bp1⟩
  go_upto_region 6 with fail
  refine held_begin (n := 12) (bs := #[false, false, false, false, false, false, false, false, false, false, false, false]) rfl rfl (by kernel_rfl) (S := fun w' => w'.cell? ⟨p, 0, none⟩ = some (.slice A n c) ∧ w'.cell? ⟨p, 1, none⟩ = some (.slice B m e)) (hSC.out _ (Below.refl _ _).drew) (fun hHeld => ?_)
  ((first | refine held_sk (i := 0) ?_ | refine held_tk (i := 0) ?_); (first | refine held_sk (i := 1) ?_ | refine held_tk (i := 1) ?_); (first | refine held_sk (i := 2) ?_ | refine held_tk (i := 2) ?_); (first | refine held_sk (i := 3) ?_ | refine held_tk (i := 3) ?_); (first | refine held_sk (i := 4) ?_ | refine held_tk (i := 4) ?_); (first | refine held_sk (i := 5) ?_ | refine held_tk (i := 5) ?_))
  refine held_one (i := 6) rfl (by kernel_rfl) (fun K hK => ?_)
  go_simp
  obtain ⟨W5, hW5⟩ : ∃ W5, W5 = Lib.bytesWorld w4.drew 5 ⟨(ps ++ [10]).toArray⟩ := ⟨_, rfl⟩
  obtain ⟨cq, hcq⟩ : ∃ cq, cq = grownCap w4.drew (ps.length + 1) 0 5 := ⟨_, rfl⟩
  obtain ⟨zb, hzb⟩ : ∃ zb, zb = w4.heap.size := ⟨_, rfl⟩
  obtain ⟨N2, hN2⟩ : ∃ N2, N2 = ps.length + 1 := ⟨_, rfl⟩
  have hlen2 : (ps ++ [10]).length = ps.length + 1 := by rw [List.length_append]; rfl
  have hf5 : Fr w4 W5 := by rw [hW5]; exact (Below.refl _ w4).drew.trans (Lib.bytesWorld_below w4.drew _ _)
  have HBN : Hid (Byt W5 (LT W5.heap.size) (some ⟨zb, 0, none⟩) N2 cq (ps ++ [10])) := by
    have := byt_conv w4.drew 5 (ps ++ [10]) (by rw [hlen2]; have := HLEN.out; have := hKs.out; omega)
    rw [hlen2] at this
    rw [hW5, hzb, hcq, hN2]
    exact this
  rw [← hW5, ← hcq, ← hzb, ← hN2]
  have HN2 := Lib.hid hN2
  have HF45 := Lib.hid hf5
  clear hW5 hcq hzb hN2 hlen2 hcv hse i0 t3 hw1 hw2 hw3
  (refine held_back hK (a' := ?hA1) (l' := ?hL1) ?ha1 ?hl1 (hSC.out _ hf5) (fun hHeld => ?hh1); (case ha1 => first | with_reducible rfl | (simp only [Act.put, hq1, hq2, hq3, Option.isNone, Bool.not_true, Bool.not_false]; (try with_reducible rfl))); (case hl1 => (simp only [Act.put, hq1, hq2, hq3, Option.isNone, Bool.not_true, Bool.not_false]; (try with_reducible rfl))); clear hK K)
  clear hf5
  refine held_one (i := 7) rfl (by kernel_rfl) (fun K hK => ?_)
  go_simp
  obtain ⟨W6, hW6⟩ : ∃ W6, W6 = W5.alloc (.cells #[.slice B m e, .slice (some ⟨zb, 0, none⟩) N2 cq] 22) := ⟨_, rfl⟩
  obtain ⟨y, hy⟩ : ∃ y, y = W5.heap.size := ⟨_, rfl⟩
  rw [← hW6, ← hy]
  have hy6 : W6.heap[y]? = some (.cells #[.slice B m e, .slice (some ⟨zb, 0, none⟩) N2 cq] 22 (0, 0)) := by rw [hW6]; exact heap_new hy
  have hf56 : Fr W5 W6 := by rw [hW6]; exact frAlloc _ _
  have hf46 : Fr w4 W6 := HF45.out.trans hf56
  have HF6 : Hid (Fr w W6) := HF4.out.trans hf46
  have CC : Hid (Calls Tryz.prog 20 #[.slice (some ⟨y, 0, none⟩) 2 2] W6 fun r w' => ∃ u, r = .returned u ∧ Own 1 eByte w' W6.heap.size 5 u (d.wait ++ (ps ++ [10])) ∧ Fr W6 w') := by
    have hsl := sl_two hy6 (blk_LT hy6) (HB.out.go HF6.out) (HBN.out.go hf56)
    have hq1 := hKs.out
    have hq2 := HLEN.out
    have := concatDBytes_any W6 _ 2 2 _ hsl (by unfold lim; omega) (by simp [lens, hl2]; unfold lim; omega) (by simp [lens, hl2]; unfold lim; omega)
    rw [show ([d.wait, ps ++ [10]] : List (List UInt8)).flatten = d.wait ++ (ps ++ [10]) by simp] at this
    exact this
  clear hW6 hy hy6 hf56 HBN HF45
  (refine held_back hK (a' := ?hA2) (l' := ?hL2) ?ha2 ?hl2 (hSC.out _ hf46) (fun hHeld => ?hh2); (case ha2 => first | with_reducible rfl | (simp only [Act.put, hq1, hq2, hq3, Option.isNone, Bool.not_true, Bool.not_false]; (try with_reducible rfl))); (case hl2 => (simp only [Act.put, hq1, hq2, hq3, Option.isNone, Bool.not_true, Bool.not_false]; (try with_reducible rfl))); clear hK K)
  refine held_one (i := 8) rfl (by kernel_rfl) (fun K hK => ?_)
  go_simp
  go_at_call 20
  (with_reducible refine (CC.out).mono ?_)
  rintro r' w7 ⟨u, rfl, ho, hf7⟩
  have hlen7 : (d.wait ++ (ps ++ [10])).length = m + (ps.length + 1) := by simp [hl2]
  obtain ⟨A9, c9, rfl, hb9⟩ := ho.byt (by rw [hlen7]; have := HLEN.out; have := hKs.out; unfold lim; omega)
  obtain ⟨N9, hN9⟩ : ∃ N9, N9 = (d.wait ++ (ps ++ [10])).length := ⟨_, rfl⟩
  rw [← hN9] at hb9
  rw [← hN9]
  have hf47 : Fr w4 w7 := hf46.trans hf7
  have HF7 : Hid (Fr w w7) := HF4.out.trans hf47
  have HB9 := Lib.hid hb9
  have hqx := blk_go HQ4.out hf47
  have hq4l := (Array.getElem?_eq_some_iff.1 HQ4.out).1
  have h67 : w4.heap.size ≤ W6.heap.size := hf46.size
  clear ho hf7 hb9 CC hlen7 hN9
  (refine held_back hK (a' := ?hA3) (l' := ?hL3) ?ha3 ?hl3 (hSC.out _ hf47) (fun hHeld => ?hh3); (case ha3 => first | with_reducible rfl | (simp only [Act.put, hq1, hq2, hq3, Option.isNone, Bool.not_true, Bool.not_false]; (try with_reducible rfl))); (case hl3 => (simp only [Act.put, hq1, hq2, hq3, Option.isNone, Bool.not_true, Bool.not_false]; (try with_reducible rfl))); clear hK K)
  ((first | refine held_sk (i := 9) ?_ | refine held_tk (i := 9) ?_))
  (obtain ⟨bq0, bq1⟩ := box2_ hqx)
  have y0 := blk_free (i := 0) hqx
  have y1 := blk_free (i := 1) hqx
  have lq := (Array.getElem?_eq_some_iff.1 hqx).1
  refine held_one (i := 10) rfl (by kernel_rfl) (fun K hK => ?_)
  go_simp
  (refine held_back hK (a' := ?hA4) (l' := ?hL4) ?ha4 ?hl4 (⟨(set2_far NE).trans (hSC.out _ hf47).1, (set2_far NE).trans (hSC.out _ hf47).2⟩) (fun hHeld => ?hh4); (case ha4 => first | with_reducible rfl | (simp only [Act.put, hq1, hq2, hq3, Option.isNone, Bool.not_true, Bool.not_false]; (try with_reducible rfl))); (case hl4 => (simp only [Act.put, hq1, hq2, hq3, Option.isNone, Bool.not_true, Bool.not_false]; (try with_reducible rfl))); clear hK K)
  ((first | refine held_sk (i := 11) ?_ | refine held_tk (i := 11) ?_))
  refine wpAnyH_done (by kernel_rfl) ?_ _
  have KEY : Hid (∀ W9, Chg (fun b => b = q) w7 W9 → Fr w W9 → ∃ A5 n5 c5 B5 m5 e5, (Ending.returned (.tuple #[.agg #[.slice A n c, .slice A9 N9 c9], .int .i64 0])) = .returned (.tuple #[.agg #[.slice A5 n5 c5, .slice B5 m5 e5], .int .i64 X.2]) ∧ Byt W9 (LT W9.heap.size) A5 n5 c5 X.1.safe ∧ Byt W9 (LT W9.heap.size) B5 m5 e5 X.1.wait ∧ Fr w W9) := by
    intro W9 hC hF
    have hs9 := hC.size
    rw [hx.out]
    refine ⟨A, n, c, A9, N9, c9, rfl, HA.out.go hF, ?_, hF⟩
    show Byt W9 (LT W9.heap.size) A9 N9 c9 (d.wait ++ ps ++ [10])
    rw [List.append_assoc]
    exact ⟨HB9.out.1, (HB9.out.2.chg sByte hC fun b hb => ⟨hb.2, fun e => by have e : b = q := e; have := hb.1; omega⟩).more sByte fun b hb => Nat.lt_of_lt_of_le hb.2 hs9⟩
  clear hqx hHeld
  go_wp2_with fail
  refine bodyPost_ret (v := .tuple #[.agg #[.slice A n c, .slice A9 N9 c9], .int .i64 0]) ?_ rfl (KEY.out _ (Chg.of (grw2_ ⟨rfl, rfl, rfl, Nat.le_refl _, fun _ _ _ => rfl⟩)) (bel2_ HF7.out (by have := HQW.out; omega)))
  simp [results, Tryz.results13, go_sem, bq0, bq1, lq]
end Go.Proofs.YtbincgbgeccccaaGreatDoor
namespace Go.Proofs.YtbincgbgeccccaaGreatDoor
open Go.RowKit
attribute [local irreducible] wpList

theorem Byt.up {w w' : World} {a b : Nat} {A : Option Addr} {n c : Nat} {l : List UInt8} (h : Byt w (NW a w.heap.size) A n c l) (hf : Fr w w') (hb : b ≤ a) : Byt w' (NW b w'.heap.size) A n c l :=
  ⟨h.1, (h.2.keep sByte fun x hx => hf.cell hx.2).more sByte fun x hx => ⟨Nat.le_trans hb hx.1, Nat.lt_of_lt_of_le hx.2 hf.size⟩⟩
theorem Sl.toNew {α : Type} {size N : Nat} {r : ERd α} {w : World} {A : Option Addr} {n : Nat} {xs : List α} (s : Stable size r) (h : Sl size r w (NW N w.heap.size) A n xs) : Sl size (eNew N r) w (LT w.heap.size) A n xs :=
  ⟨h.1, fun hn => by
    obtain ⟨ad, e, hb, hr⟩ := h.2 hn
    exact ⟨ad, e, hb.2, fun i x hx => s.more (fun b hb => ⟨hb.2, hb.1⟩) (hr i x hx)⟩⟩
set_option maxRecDepth 100000 in
set_option maxHeartbeats 8000000 in
theorem refRecovered_any (w : World) (v : Vars w) (d : Dk) (A : Option Addr) (n c : Nat) (B : Option Addr) (m e : Nat) (hA : Byt w (LT w.heap.size) A n c d.safe) (hB : Byt w (LT w.heap.size) B m e d.wait) (hsz : n + m ≤ 60000) :
    Calls Tryz.prog 15 #[.agg #[.slice A n c, .slice B m e]] w fun e' w' => ∃ A5 n5 c5 A6 n6 c6, e' = .returned (.tuple #[.agg #[.slice A5 n5 c5, .slice none 0 0], .slice A6 n6 c6]) ∧ Byt w' (LT w'.heap.size) A5 n5 c5 (recR d).1.safe ∧ Sl 13 eRc w' (LT w'.heap.size) A6 n6 (recR d).2 ∧ Fr w w' := by
  obtain ⟨X, hX⟩ : ∃ X, X = recR d := ⟨_, rfl⟩
  rw [← hX]
  have hl := hA.2.1
  have hl2 := hB.2.1
  obtain ⟨W1, hW1⟩ : ∃ W1, W1 = (w.alloc (.cells #[.slice A n c, .slice B m e] 24)).alloc (.cells #[.slice none 0 0, .slice none 0 0] 24) := ⟨_, rfl⟩
  obtain ⟨p, hp⟩ : ∃ p, p = w.heap.size := ⟨_, rfl⟩
  obtain ⟨q, hq⟩ : ∃ q, q = w.heap.size + 1 := ⟨_, rfl⟩
  have hp1 : W1.heap[p]? = some (.cells #[.slice A n c, .slice B m e] 24 (0, 0)) := by rw [hW1]; exact heap_old (heap_new hp)
  have hq1 : W1.heap[q]? = some (.cells #[.slice none 0 0, .slice none 0 0] 24 (0, 0)) := by rw [hW1]; exact heap_new (by rw [hq]; simp)
  have HF1 : Hid (Fr w W1) := by rw [hW1]; exact (frAlloc _ _).trans (frAlloc _ _)
  have HQW := Lib.hid hq
  have HP1 := Lib.hid hp1
  have HQ1 := Lib.hid hq1
  have NE : q ≠ p := by omega
  have hq1l := (Array.getElem?_eq_some_iff.1 hq1).1
  obtain ⟨Y, hY⟩ : ∃ Y, Y = linesF 200 d.safe := ⟨_, rfl⟩
  obtain ⟨Z, hZ⟩ : ∃ Z, Z = linesF (200 - Y.1.length) d.wait := ⟨_, rfl⟩
  have hmany : Y.1.length ≤ 200 := by rw [hY]; exact (linesF_ok _ _).many
  have hzl : Z.2.1 ≤ m := by rw [hZ, ← hl2]; exact linesF_le
  have hzm : Z.1.length ≤ 200 - Y.1.length := by rw [hZ]; exact (linesF_ok _ _).many
  have hx : Hid (X = (⟨d.safe ++ d.wait.take Z.2.1, []⟩, Y.1 ++ Z.1)) := by rw [Hid, hX, hZ, hY]; rfl
  have hcv := conv_bytes W1 c (hA.2.go sByte HF1.out)
  have LN : Hid (Calls Tryz.prog 22 #[sV d.safe, .int .i64 200] W1 (LPost W1 Y)) := by rw [hY]; exact refLines_any W1 (v.go HF1.out) d.safe (by omega) 200 (by omega)
  have LM : Hid (∀ W, Fr w W → Calls Tryz.prog 22 #[sV d.wait, .int .i64 ((200 - Y.1.length : Nat) : Int)] W (LPost W Z)) := fun W hf => by rw [hZ]; exact refLines_any W (v.go hf) d.wait (by omega) _ (by omega)
  have HA := Lib.hid hA
  have HB := Lib.hid hB
  have HL := Lib.hid hl
  have HL2 := Lib.hid hl2
  have HZL := Lib.hid hzl
  have HYM := Lib.hid hmany
  have HZM := Lib.hid hzm
  have HSZ := Lib.hid hsz
  (obtain ⟨bp0, bp1⟩ := box2_ hp1)
  clear hp1 hq1 hA hB hX v hY hZ hl hl2
  go_enter Tryz.func15, Tryz.ntmps15
  go_upto_region 1 with fail
  rw [← hW1, ← hq, ← hp]
  clear hW1 hp hq
  go_wp2_with fail
  (with_reducible refine (LN.out).mono ?_)
  rintro r w3 ⟨v1, rfl, ho3, hf3⟩
  have HF3 : Hid (Fr w w3) := HF1.out.trans hf3
  have HP3 := Lib.hid (blk_go HP1.out hf3)
  have HQ3 := Lib.hid (blk_go HQ1.out hf3)
  have HF13 := Lib.hid hf3
  obtain ⟨A1, c1, rfl, hc1, hs1⟩ := ho3.slN sRc (Nat.le_refl _)
  have HS3 := Lib.hid hs1
  have HC1 := Lib.hid hc1
  have hcw := conv_bytes w3 e (HB.out.2.go sByte HF3.out)
  have i3 : IntKind.i64.wrap ((200 : Int) - (Y.1.length : Int)) = ((200 - Y.1.length : Nat) : Int) := by rw [IntKind.wrap_i64]; omega
  have hpx := HP3.out
  clear hf3 ho3 hs1 hc1 LN hcv HF1 HP1 HQ1 bp0 bp1
  (obtain ⟨bp0, bp1⟩ := box2_ hpx)
  clear hpx
  go_wp2_with fail
  (with_reducible refine (LM.out _ HF3.out).mono ?_)
  rintro r w4 ⟨v2, rfl, ho4, hf4⟩
  obtain ⟨A2, c2, rfl, hc2, hs2⟩ := ho4.slN sRc (Nat.le_refl _)
  have HF4 : Hid (Fr w w4) := HF3.out.trans hf4
  have HQ4 := Lib.hid (blk_go HQ3.out hf4)
  have hp4 := blk_go HP3.out hf4
  have h34 := hf4.size
  have h13 := HF13.out.size
  have HS1 : Hid (Sl 13 eRc w4 (NW W1.heap.size w4.heap.size) A1 Y.1.length Y.1) := (HS3.out.keep sRc fun x hx => hf4.cell hx.2).more sRc fun x hx => ⟨hx.1, Nat.lt_of_lt_of_le hx.2 h34⟩
  have HS2 : Hid (Sl 13 eRc w4 (NW W1.heap.size w4.heap.size) A2 Z.1.length Z.1) := hs2.more sRc fun x hx => ⟨Nat.le_trans h13 hx.1, hx.2⟩
  have HC2 := Lib.hid hc2
  obtain ⟨zn, hzn⟩ : ∃ zn, zn = Z.2.1 := ⟨_, rfl⟩
  obtain ⟨L7, hL7⟩ : ∃ L7, L7 = d.safe ++ d.wait.take zn := ⟨_, rfl⟩
  obtain ⟨N7, hN7⟩ : ∃ N7, N7 = L7.length := ⟨_, rfl⟩
  obtain ⟨L8, hL8⟩ : ∃ L8, L8 = Y.1 ++ Z.1 := ⟨_, rfl⟩
  obtain ⟨N8, hN8⟩ : ∃ N8, N8 = L8.length := ⟨_, rfl⟩
  obtain ⟨l1, hl1⟩ : ∃ l1, l1 = Y.1.length := ⟨_, rfl⟩
  obtain ⟨l2, hl2⟩ : ∃ l2, l2 = Z.1.length := ⟨_, rfl⟩
  rw [← hzn]
  rw [← hzn, ← hL7, ← hL8] at hx
  rw [← hl1] at HS1
  rw [← hl2] at HS2
  rw [← hl1, ← hl2]
  have hzb : zn ≤ m := by rw [hzn]; exact HZL.out
  have hze : zn ≤ e := by have := HB.out.1; omega
  have hlen7 : L7.length ≤ 60000 := by have := HSZ.out; have := HL.out; rw [hL7, List.length_append, List.length_take]; omega
  have hlt : (d.wait.take zn).length = zn := by rw [List.length_take]; have := HL2.out; omega
  have CC : Hid (∀ W z, Fr w4 W → W.heap[z]? = some (.cells #[.slice A n c, .slice B zn e] 22 (0, 0)) → Calls Tryz.prog 20 #[.slice (some ⟨z, 0, none⟩) 2 2] W fun r w' => ∃ A7 c7, r = .returned (.slice A7 N7 c7) ∧ Byt w' (NW W.heap.size w'.heap.size) A7 N7 c7 L7 ∧ Fr W w') := by
    intro W z hf hz
    have hb9 := HB.out.go (HF4.out.trans hf)
    have hq1 := hb9.1
    have hsl := sl_two (x := d.safe) (y := d.wait.take zn) hz (blk_LT hz) (HA.out.go (HF4.out.trans hf)) ⟨⟨by omega, hze, hq1.2.2⟩, hb9.2.pre hzb⟩
    have h8 : lens [d.safe, d.wait.take zn] ≤ 60000 := by
      have : lens [d.safe, d.wait.take zn] = (d.safe ++ d.wait.take zn).length := by simp [lens]
      rw [this, ← hL7]; exact hlen7
    refine (concatDBytes_any W _ 2 2 _ hsl (by unfold lim; omega) (by unfold lim; omega) (by unfold lim; omega)).mono ?_
    rintro r w' ⟨u, rfl, ho, hf'⟩
    rw [show ([d.safe, d.wait.take zn] : List (List UInt8)).flatten = L7 by rw [hL7]; simp] at ho
    obtain ⟨A7, c7, rfl, hb7⟩ := ho.byt (by unfold lim; omega)
    rw [← hN7] at hb7
    exact ⟨A7, c7, by rw [← hN7], hb7, hf'⟩
  have hq1 := HC1.out
  have hq2 := HC2.out
  rw [← hl1] at hq1
  rw [← hl2] at hq2
  have hl12 : l1 ≤ 200 ∧ l2 ≤ 200 := by have := HYM.out; have := HZM.out; omega
  have CR : Hid (∀ W z, Fr w4 W → W.heap[z]? = some (.cells #[.slice A1 l1 c1, .slice A2 l2 c2] 39 (0, 0)) → Calls Tryz.prog 25 #[.slice (some ⟨z, 0, none⟩) 2 2] W fun r w' => ∃ A8 c8, r = .returned (.slice A8 N8 c8) ∧ Sl 13 eRc w' (NW W1.heap.size w'.heap.size) A8 N8 L8 ∧ Fr W w') := by
    intro W z hf hz
    have hk : ∀ {A : Option Addr} {n : Nat} {xs : List Rc}, Sl 13 eRc w4 (NW W1.heap.size w4.heap.size) A n xs → Sl 13 (eNew W1.heap.size eRc) W (LT W.heap.size) A n xs := fun h =>
      Sl.toNew sRc ((h.keep sRc fun x hx => hf.cell hx.2).more sRc fun x hx => ⟨hx.1, Nat.lt_of_lt_of_le hx.2 hf.size⟩)
    have hsl : Sl 1 (eSl 13 136 (eNew W1.heap.size eRc)) W (LT W.heap.size) (some ⟨z, 0, none⟩) 2 [Y.1, Z.1] := .lit hz (blk_LT hz) rfl fun i q hq => by
      match i, hq with
      | 0, hq => obtain rfl : Y.1 = q := by simpa using hq
                 exact ⟨A1, l1, c1, by simp, ⟨by unfold lim; omega, hq1.1, hq1.2⟩, hk HS1.out⟩
      | 1, hq => obtain rfl : Z.1 = q := by simpa using hq
                 exact ⟨A2, l2, c2, by simp, ⟨by unfold lim; omega, hq2.1, hq2.2⟩, hk HS2.out⟩
      | i + 2, hq => simp at hq
    have h8 : lens [Y.1, Z.1] ≤ 400 := by simp [lens]; omega
    refine (concatRecsN_any W _ 2 2 _ hsl (by unfold lim; omega) (by unfold lim; omega) (by unfold lim; omega)).mono ?_
    rintro r w' ⟨u, rfl, ho, hf'⟩
    rw [show ([Y.1, Z.1] : List (List Rc)).flatten = L8 by rw [hL8]; simp] at ho
    obtain ⟨A8, c8, rfl, _, hb8⟩ := ho.slN sRc (by have := hf.size; omega)
    rw [← hN8] at hb8
    exact ⟨A8, c8, by rw [← hN8], hb8, hf'⟩
  have HHE := Lib.hid hze
  have i1 : (zn : Int) ≤ (e : Int) := by omega
  have i2 : 0 ≤ (zn : Int) := by omega
  clear hf4 ho4 hs2 hc2 LM hcw i3 hzn hL7 hN7 hL8 hN8 hl1 hl2 hlen7 hlt hq1 hq2 hl12 hzl hmany hzm HS1 HS2 HS3 HC1 HC2 HF3 HP3 HQ3 bp0 bp1
  (obtain ⟨bp0, bp1⟩ := box2_ hp4)
  clear hp4
  have hSC : Hid (∀ w', Fr w4 w' → w'.cell? ⟨p, 0, none⟩ = some (.slice A n c) ∧ w'.cell? ⟨p, 1, none⟩ = some (.slice B m e)) := fun w' hf => ⟨(hf.cell (World.block_lt_of_cell? w4 _ bp0)).trans bp0, (hf.cell (World.block_lt_of_cell? w4 _ bp1)).trans bp1⟩
  go_upto_region 3 with fail
  refine held_begin (n := 15) (bs := #[false, false, false, false, false, false, false, false, false, false, false, false, false, false, false]) rfl rfl (by kernel_rfl) (S := fun w' => w'.cell? ⟨p, 0, none⟩ = some (.slice A n c) ∧ w'.cell? ⟨p, 1, none⟩ = some (.slice B m e)) (hSC.out _ (Below.refl _ _).drew) (fun hHeld => ?_)
  ((first | refine held_sk (i := 0) ?_ | refine held_tk (i := 0) ?_); (first | refine held_sk (i := 1) ?_ | refine held_tk (i := 1) ?_); (first | refine held_sk (i := 2) ?_ | refine held_tk (i := 2) ?_); (first | refine held_sk (i := 3) ?_ | refine held_tk (i := 3) ?_); (first | refine held_sk (i := 4) ?_ | refine held_tk (i := 4) ?_); (first | refine held_sk (i := 5) ?_ | refine held_tk (i := 5) ?_); (first | refine held_sk (i := 9) ?_ | refine held_tk (i := 9) ?_); (first | refine held_sk (i := 10) ?_ | refine held_tk (i := 10) ?_))
  refine held_two (i := 6) (j := 11) rfl rfl (by kernel_rfl) (fun K hK => ?_) (fun K hK => ?_)
  · skip
    go_simp
    obtain ⟨Va, hV⟩ : ∃ V, V = (w4.alloc (.cells #[.slice A n c, .slice B zn e] 22)).drew := ⟨_, rfl⟩
    obtain ⟨ya, hy⟩ : ∃ y, y = w4.heap.size := ⟨_, rfl⟩
    rw [← hV, ← hy]
    have hza : Va.heap[ya]? = some (.cells #[.slice A n c, .slice B zn e] 22 (0, 0)) := by rw [hV]; exact heap_d (heap_new hy)
    have hna : Fr w4 Va := by rw [hV]; exact (frAlloc _ _).drew
    have hga : Fr w4 Va := Fr.trans (Below.refl _ _) hna
    clear hV hy
    (refine held_back hK (a' := ?hA5) (l' := ?hL5) ?ha5 ?hl5 (hSC.out _ hga) (fun hHeld => ?hh5); (case ha5 => first | with_reducible rfl | (simp only [Act.put, hq1, hq2, hq3, Option.isNone, Bool.not_true, Bool.not_false]; (try with_reducible rfl))); (case hl5 => (simp only [Act.put, hq1, hq2, hq3, Option.isNone, Bool.not_true, Bool.not_false]; (try with_reducible rfl))); clear hK K)
    refine held_two (i := 7) (j := 11) rfl rfl (by kernel_rfl) (fun K hK => ?_) (fun K hK => ?_)
    · skip
      go_simp
      go_at_call 20
      (with_reducible refine (CC.out _ _ hga (hza)).mono ?_)
      rintro r7 V7 ⟨A7, c7, rfl, hb7, hf7⟩
      have hg7 : Fr w4 V7 := Fr.trans hga hf7
      (refine held_back hK (a' := ?hA6) (l' := ?hL6) ?ha6 ?hl6 (hSC.out _ hg7) (fun hHeld => ?hh6); (case ha6 => first | with_reducible rfl | (simp only [Act.put, hq1, hq2, hq3, Option.isNone, Bool.not_true, Bool.not_false]; (try with_reducible rfl))); (case hl6 => (simp only [Act.put, hq1, hq2, hq3, Option.isNone, Bool.not_true, Bool.not_false]; (try with_reducible rfl))); clear hK K)
      ((first | refine held_sk (i := 8) ?_ | refine held_tk (i := 8) ?_))
      refine held_one (i := 11) rfl (by kernel_rfl) (fun K hK => ?_)
      go_simp
      obtain ⟨Vb, hV⟩ : ∃ V, V = V7.alloc (.cells #[.slice A1 l1 c1, .slice A2 l2 c2] 39) := ⟨_, rfl⟩
      obtain ⟨yb, hy⟩ : ∃ y, y = V7.heap.size := ⟨_, rfl⟩
      rw [← hV, ← hy]
      have hzb : Vb.heap[yb]? = some (.cells #[.slice A1 l1 c1, .slice A2 l2 c2] 39 (0, 0)) := by rw [hV]; exact id (heap_new hy)
      have hnb : Fr V7 Vb := by rw [hV]; exact (frAlloc _ _)
      have hgb : Fr w4 Vb := Fr.trans hg7 hnb
      clear hV hy
      (refine held_back hK (a' := ?hA7) (l' := ?hL7) ?ha7 ?hl7 (hSC.out _ hgb) (fun hHeld => ?hh7); (case ha7 => first | with_reducible rfl | (simp only [Act.put, hq1, hq2, hq3, Option.isNone, Bool.not_true, Bool.not_false]; (try with_reducible rfl))); (case hl7 => (simp only [Act.put, hq1, hq2, hq3, Option.isNone, Bool.not_true, Bool.not_false]; (try with_reducible rfl))); clear hK K)
      refine held_one (i := 12) rfl (by kernel_rfl) (fun K hK => ?_)
      go_simp
      go_at_call 25
      (with_reducible refine (CR.out _ _ hgb (hzb)).mono ?_)
      rintro r8 V8 ⟨A8, c8, rfl, hb8, hf8⟩
      have hg8 : Fr w4 V8 := Fr.trans hgb hf8
      have hqx := blk_go HQ4.out hg8
      have HB7 : Hid (Byt V8 (NW w4.heap.size V8.heap.size) A7 N7 c7 L7) := hb7.up (Fr.trans hnb hf8) hga.size
      have HB8 : Hid (Sl 13 eRc V8 (NW W1.heap.size V8.heap.size) A8 N8 L8) := hb8
      have HF8 : Hid (Fr w V8) := Fr.trans HF4.out hg8
      (refine held_back hK (a' := ?hA8) (l' := ?hL8) ?ha8 ?hl8 (hSC.out _ hg8) (fun hHeld => ?hh8); (case ha8 => first | with_reducible rfl | (simp only [Act.put, hq1, hq2, hq3, Option.isNone, Bool.not_true, Bool.not_false]; (try with_reducible rfl))); (case hl8 => (simp only [Act.put, hq1, hq2, hq3, Option.isNone, Bool.not_true, Bool.not_false]; (try with_reducible rfl))); clear hK K)
      (obtain ⟨bq0, bq1⟩ := box2_ hqx)
      have y0 := blk_free (i := 0) hqx
      have y1 := blk_free (i := 1) hqx
      have lq := (Array.getElem?_eq_some_iff.1 hqx).1
      refine held_one (i := 13) rfl (by kernel_rfl) (fun K hK => ?_)
      go_simp
      (refine held_back hK (a' := ?hA9) (l' := ?hL9) ?ha9 ?hl9 (⟨(set2_far NE).trans (hSC.out _ hg8).1, (set2_far NE).trans (hSC.out _ hg8).2⟩) (fun hHeld => ?hh9); (case ha9 => first | with_reducible rfl | (simp only [Act.put, hq1, hq2, hq3, Option.isNone, Bool.not_true, Bool.not_false]; (try with_reducible rfl))); (case hl9 => (simp only [Act.put, hq1, hq2, hq3, Option.isNone, Bool.not_true, Bool.not_false]; (try with_reducible rfl))); clear hK K)
      ((first | refine held_sk (i := 14) ?_ | refine held_tk (i := 14) ?_))
      refine wpAnyH_done (by kernel_rfl) ?_ _
      have KEY : Hid (∀ W9, Chg (fun b => b = q) V8 W9 → Fr w W9 → ∃ A5 n5 c5 A6 n6 c6, (Ending.returned (.tuple #[.agg #[.slice A7 N7 c7, .slice none 0 0], .slice A8 N8 c8])) = .returned (.tuple #[.agg #[.slice A5 n5 c5, .slice none 0 0], .slice A6 n6 c6]) ∧ Byt W9 (LT W9.heap.size) A5 n5 c5 X.1.safe ∧ Sl 13 eRc W9 (LT W9.heap.size) A6 n6 X.2 ∧ Fr w W9) := by
        intro W9 hC hF
        have hs9 := hC.size
        rw [hx.out]
        refine ⟨A7, N7, c7, A8, N8, c8, rfl, ?_, ?_, hF⟩
        · exact ⟨HB7.out.1, (HB7.out.2.chg sByte hC fun b hb => ⟨hb.2, fun e => by have e : b = q := e; have := hb.1; omega⟩).more sByte fun b hb => Nat.lt_of_lt_of_le hb.2 hs9⟩
        · exact (HB8.out.chg sRc hC fun b hb => ⟨hb.2, fun e => by have e : b = q := e; have := hb.1; omega⟩).more sRc fun b hb => Nat.lt_of_lt_of_le hb.2 hs9
      clear hqx hHeld
      go_wp2_with fail
      refine bodyPost_ret (v := .tuple #[.agg #[.slice A7 N7 c7, .slice none 0 0], .slice A8 N8 c8]) ?_ rfl (KEY.out _ (Chg.of (grw2_ ⟨rfl, rfl, rfl, Nat.le_refl _, fun _ _ _ => rfl⟩)) (bel2_ HF8.out (by have := HQW.out; omega)))
      simp [results, Tryz.results15, go_sem, bq0, bq1, lq]
    · skip
      go_simp
      obtain ⟨Vb, hV⟩ : ∃ V, V = Va.alloc (.cells #[.slice A1 l1 c1, .slice A2 l2 c2] 39) := ⟨_, rfl⟩
      obtain ⟨yb, hy⟩ : ∃ y, y = Va.heap.size := ⟨_, rfl⟩
      rw [← hV, ← hy]
      have hzb : Vb.heap[yb]? = some (.cells #[.slice A1 l1 c1, .slice A2 l2 c2] 39 (0, 0)) := by rw [hV]; exact id (heap_new hy)
      have hnb : Fr Va Vb := by rw [hV]; exact (frAlloc _ _)
      have hgb : Fr w4 Vb := Fr.trans hga hnb
      clear hV hy
      (refine held_back hK (a' := ?hA10) (l' := ?hL10) ?ha10 ?hl10 (hSC.out _ hgb) (fun hHeld => ?hh10); (case ha10 => first | with_reducible rfl | (simp only [Act.put, hq1, hq2, hq3, Option.isNone, Bool.not_true, Bool.not_false]; (try with_reducible rfl))); (case hl10 => (simp only [Act.put, hq1, hq2, hq3, Option.isNone, Bool.not_true, Bool.not_false]; (try with_reducible rfl))); clear hK K)
      refine held_one (i := 7) rfl (by kernel_rfl) (fun K hK => ?_)
      go_simp
      go_at_call 20
      (with_reducible refine (CC.out _ _ hgb (blk_go hza hnb)).mono ?_)
      rintro r7 V7 ⟨A7, c7, rfl, hb7, hf7⟩
      have hg7 : Fr w4 V7 := Fr.trans hgb hf7
      (refine held_back hK (a' := ?hA11) (l' := ?hL11) ?ha11 ?hl11 (hSC.out _ hg7) (fun hHeld => ?hh11); (case ha11 => first | with_reducible rfl | (simp only [Act.put, hq1, hq2, hq3, Option.isNone, Bool.not_true, Bool.not_false]; (try with_reducible rfl))); (case hl11 => (simp only [Act.put, hq1, hq2, hq3, Option.isNone, Bool.not_true, Bool.not_false]; (try with_reducible rfl))); clear hK K)
      ((first | refine held_sk (i := 8) ?_ | refine held_tk (i := 8) ?_))
      refine held_one (i := 12) rfl (by kernel_rfl) (fun K hK => ?_)
      go_simp
      go_at_call 25
      (with_reducible refine (CR.out _ _ hg7 (blk_go hzb hf7)).mono ?_)
      rintro r8 V8 ⟨A8, c8, rfl, hb8, hf8⟩
      have hg8 : Fr w4 V8 := Fr.trans hg7 hf8
      have hqx := blk_go HQ4.out hg8
      have HB7 : Hid (Byt V8 (NW w4.heap.size V8.heap.size) A7 N7 c7 L7) := hb7.up hf8 hgb.size
      have HB8 : Hid (Sl 13 eRc V8 (NW W1.heap.size V8.heap.size) A8 N8 L8) := hb8
      have HF8 : Hid (Fr w V8) := Fr.trans HF4.out hg8
      (refine held_back hK (a' := ?hA12) (l' := ?hL12) ?ha12 ?hl12 (hSC.out _ hg8) (fun hHeld => ?hh12); (case ha12 => first | with_reducible rfl | (simp only [Act.put, hq1, hq2, hq3, Option.isNone, Bool.not_true, Bool.not_false]; (try with_reducible rfl))); (case hl12 => (simp only [Act.put, hq1, hq2, hq3, Option.isNone, Bool.not_true, Bool.not_false]; (try with_reducible rfl))); clear hK K)
      (obtain ⟨bq0, bq1⟩ := box2_ hqx)
      have y0 := blk_free (i := 0) hqx
      have y1 := blk_free (i := 1) hqx
      have lq := (Array.getElem?_eq_some_iff.1 hqx).1
      refine held_one (i := 13) rfl (by kernel_rfl) (fun K hK => ?_)
      go_simp
      (refine held_back hK (a' := ?hA13) (l' := ?hL13) ?ha13 ?hl13 (⟨(set2_far NE).trans (hSC.out _ hg8).1, (set2_far NE).trans (hSC.out _ hg8).2⟩) (fun hHeld => ?hh13); (case ha13 => first | with_reducible rfl | (simp only [Act.put, hq1, hq2, hq3, Option.isNone, Bool.not_true, Bool.not_false]; (try with_reducible rfl))); (case hl13 => (simp only [Act.put, hq1, hq2, hq3, Option.isNone, Bool.not_true, Bool.not_false]; (try with_reducible rfl))); clear hK K)
      ((first | refine held_sk (i := 14) ?_ | refine held_tk (i := 14) ?_))
      refine wpAnyH_done (by kernel_rfl) ?_ _
      have KEY : Hid (∀ W9, Chg (fun b => b = q) V8 W9 → Fr w W9 → ∃ A5 n5 c5 A6 n6 c6, (Ending.returned (.tuple #[.agg #[.slice A7 N7 c7, .slice none 0 0], .slice A8 N8 c8])) = .returned (.tuple #[.agg #[.slice A5 n5 c5, .slice none 0 0], .slice A6 n6 c6]) ∧ Byt W9 (LT W9.heap.size) A5 n5 c5 X.1.safe ∧ Sl 13 eRc W9 (LT W9.heap.size) A6 n6 X.2 ∧ Fr w W9) := by
        intro W9 hC hF
        have hs9 := hC.size
        rw [hx.out]
        refine ⟨A7, N7, c7, A8, N8, c8, rfl, ?_, ?_, hF⟩
        · exact ⟨HB7.out.1, (HB7.out.2.chg sByte hC fun b hb => ⟨hb.2, fun e => by have e : b = q := e; have := hb.1; omega⟩).more sByte fun b hb => Nat.lt_of_lt_of_le hb.2 hs9⟩
        · exact (HB8.out.chg sRc hC fun b hb => ⟨hb.2, fun e => by have e : b = q := e; have := hb.1; omega⟩).more sRc fun b hb => Nat.lt_of_lt_of_le hb.2 hs9
      clear hqx hHeld
      go_wp2_with fail
      refine bodyPost_ret (v := .tuple #[.agg #[.slice A7 N7 c7, .slice none 0 0], .slice A8 N8 c8]) ?_ rfl (KEY.out _ (Chg.of (grw2_ ⟨rfl, rfl, rfl, Nat.le_refl _, fun _ _ _ => rfl⟩)) (bel2_ HF8.out (by have := HQW.out; omega)))
      simp [results, Tryz.results15, go_sem, bq0, bq1, lq]
  · skip
    go_simp
    obtain ⟨Vb, hV⟩ : ∃ V, V = (w4.alloc (.cells #[.slice A1 l1 c1, .slice A2 l2 c2] 39)).drew := ⟨_, rfl⟩
    obtain ⟨yb, hy⟩ : ∃ y, y = w4.heap.size := ⟨_, rfl⟩
    rw [← hV, ← hy]
    have hzb : Vb.heap[yb]? = some (.cells #[.slice A1 l1 c1, .slice A2 l2 c2] 39 (0, 0)) := by rw [hV]; exact heap_d (heap_new hy)
    have hnb : Fr w4 Vb := by rw [hV]; exact (frAlloc _ _).drew
    have hgb : Fr w4 Vb := Fr.trans (Below.refl _ _) hnb
    clear hV hy
    (refine held_back hK (a' := ?hA14) (l' := ?hL14) ?ha14 ?hl14 (hSC.out _ hgb) (fun hHeld => ?hh14); (case ha14 => first | with_reducible rfl | (simp only [Act.put, hq1, hq2, hq3, Option.isNone, Bool.not_true, Bool.not_false]; (try with_reducible rfl))); (case hl14 => (simp only [Act.put, hq1, hq2, hq3, Option.isNone, Bool.not_true, Bool.not_false]; (try with_reducible rfl))); clear hK K)
    refine held_one (i := 6) rfl (by kernel_rfl) (fun K hK => ?_)
    go_simp
    obtain ⟨Va, hV⟩ : ∃ V, V = Vb.alloc (.cells #[.slice A n c, .slice B zn e] 22) := ⟨_, rfl⟩
    obtain ⟨ya, hy⟩ : ∃ y, y = Vb.heap.size := ⟨_, rfl⟩
    rw [← hV, ← hy]
    have hza : Va.heap[ya]? = some (.cells #[.slice A n c, .slice B zn e] 22 (0, 0)) := by rw [hV]; exact id (heap_new hy)
    have hna : Fr Vb Va := by rw [hV]; exact (frAlloc _ _)
    have hga : Fr w4 Va := Fr.trans hgb hna
    clear hV hy
    (refine held_back hK (a' := ?hA15) (l' := ?hL15) ?ha15 ?hl15 (hSC.out _ hga) (fun hHeld => ?hh15); (case ha15 => first | with_reducible rfl | (simp only [Act.put, hq1, hq2, hq3, Option.isNone, Bool.not_true, Bool.not_false]; (try with_reducible rfl))); (case hl15 => (simp only [Act.put, hq1, hq2, hq3, Option.isNone, Bool.not_true, Bool.not_false]; (try with_reducible rfl))); clear hK K)
    refine held_one (i := 7) rfl (by kernel_rfl) (fun K hK => ?_)
    go_simp
    go_at_call 20
    (with_reducible refine (CC.out _ _ hga (hza)).mono ?_)
    rintro r7 V7 ⟨A7, c7, rfl, hb7, hf7⟩
    have hg7 : Fr w4 V7 := Fr.trans hga hf7
    (refine held_back hK (a' := ?hA16) (l' := ?hL16) ?ha16 ?hl16 (hSC.out _ hg7) (fun hHeld => ?hh16); (case ha16 => first | with_reducible rfl | (simp only [Act.put, hq1, hq2, hq3, Option.isNone, Bool.not_true, Bool.not_false]; (try with_reducible rfl))); (case hl16 => (simp only [Act.put, hq1, hq2, hq3, Option.isNone, Bool.not_true, Bool.not_false]; (try with_reducible rfl))); clear hK K)
    ((first | refine held_sk (i := 8) ?_ | refine held_tk (i := 8) ?_))
    refine held_one (i := 12) rfl (by kernel_rfl) (fun K hK => ?_)
    go_simp
    go_at_call 25
    (with_reducible refine (CR.out _ _ hg7 (blk_go (blk_go hzb hna) hf7)).mono ?_)
    rintro r8 V8 ⟨A8, c8, rfl, hb8, hf8⟩
    have hg8 : Fr w4 V8 := Fr.trans hg7 hf8
    have hqx := blk_go HQ4.out hg8
    have HB7 : Hid (Byt V8 (NW w4.heap.size V8.heap.size) A7 N7 c7 L7) := hb7.up hf8 hga.size
    have HB8 : Hid (Sl 13 eRc V8 (NW W1.heap.size V8.heap.size) A8 N8 L8) := hb8
    have HF8 : Hid (Fr w V8) := Fr.trans HF4.out hg8
    (refine held_back hK (a' := ?hA17) (l' := ?hL17) ?ha17 ?hl17 (hSC.out _ hg8) (fun hHeld => ?hh17); (case ha17 => first | with_reducible rfl | (simp only [Act.put, hq1, hq2, hq3, Option.isNone, Bool.not_true, Bool.not_false]; (try with_reducible rfl))); (case hl17 => (simp only [Act.put, hq1, hq2, hq3, Option.isNone, Bool.not_true, Bool.not_false]; (try with_reducible rfl))); clear hK K)
    (obtain ⟨bq0, bq1⟩ := box2_ hqx)
    have y0 := blk_free (i := 0) hqx
    have y1 := blk_free (i := 1) hqx
    have lq := (Array.getElem?_eq_some_iff.1 hqx).1
    refine held_one (i := 13) rfl (by kernel_rfl) (fun K hK => ?_)
    go_simp
    (refine held_back hK (a' := ?hA18) (l' := ?hL18) ?ha18 ?hl18 (⟨(set2_far NE).trans (hSC.out _ hg8).1, (set2_far NE).trans (hSC.out _ hg8).2⟩) (fun hHeld => ?hh18); (case ha18 => first | with_reducible rfl | (simp only [Act.put, hq1, hq2, hq3, Option.isNone, Bool.not_true, Bool.not_false]; (try with_reducible rfl))); (case hl18 => (simp only [Act.put, hq1, hq2, hq3, Option.isNone, Bool.not_true, Bool.not_false]; (try with_reducible rfl))); clear hK K)
    ((first | refine held_sk (i := 14) ?_ | refine held_tk (i := 14) ?_))
    refine wpAnyH_done (by kernel_rfl) ?_ _
    have KEY : Hid (∀ W9, Chg (fun b => b = q) V8 W9 → Fr w W9 → ∃ A5 n5 c5 A6 n6 c6, (Ending.returned (.tuple #[.agg #[.slice A7 N7 c7, .slice none 0 0], .slice A8 N8 c8])) = .returned (.tuple #[.agg #[.slice A5 n5 c5, .slice none 0 0], .slice A6 n6 c6]) ∧ Byt W9 (LT W9.heap.size) A5 n5 c5 X.1.safe ∧ Sl 13 eRc W9 (LT W9.heap.size) A6 n6 X.2 ∧ Fr w W9) := by
      intro W9 hC hF
      have hs9 := hC.size
      rw [hx.out]
      refine ⟨A7, N7, c7, A8, N8, c8, rfl, ?_, ?_, hF⟩
      · exact ⟨HB7.out.1, (HB7.out.2.chg sByte hC fun b hb => ⟨hb.2, fun e => by have e : b = q := e; have := hb.1; omega⟩).more sByte fun b hb => Nat.lt_of_lt_of_le hb.2 hs9⟩
      · exact (HB8.out.chg sRc hC fun b hb => ⟨hb.2, fun e => by have e : b = q := e; have := hb.1; omega⟩).more sRc fun b hb => Nat.lt_of_lt_of_le hb.2 hs9
    clear hqx hHeld
    go_wp2_with fail
    refine bodyPost_ret (v := .tuple #[.agg #[.slice A7 N7 c7, .slice none 0 0], .slice A8 N8 c8]) ?_ rfl (KEY.out _ (Chg.of (grw2_ ⟨rfl, rfl, rfl, Nat.le_refl _, fun _ _ _ => rfl⟩)) (bel2_ HF8.out (by have := HQW.out; omega)))
    simp [results, Tryz.results15, go_sem, bq0, bq1, lq]
end Go.Proofs.YtbincgbgeccccaaGreatDoor
