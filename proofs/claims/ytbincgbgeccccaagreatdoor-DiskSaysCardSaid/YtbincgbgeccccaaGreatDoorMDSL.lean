/- 'DiskSays' answers true for every input, and leaves its arguments as they were; the card: what the row lists is tied to the program's text. No condition. -/
import Derived.Test.YtbincgbgeccccaaGreatDoorMDSR
import Derived.Test.YtbincgbgeccccaaGreatDoorMDSG
import Derived.Deep.DeepCutAuto
import Derived.Deep.Cut
import Derived.Test.YtbincgbgeccccaaGreatDoorMDSO
import Derived.Test.YtbincgbgeccccaaGreatDoorLaid
import Derived.ProofKit
import Derived.OpenShut
set_option linter.unusedSimpArgs false
set_option linter.unusedVariables false
namespace Go.Proofs.YtbincgbgeccccaaGreatDoor
open Go.RowKit
attribute [local irreducible] wpList

theorem saysRcR : SaysRc Tryz.prog 17 := fun W a b A na ca A2 na2 ca2 B nb cb B2 nb2 cb2 h1 h2 h3 h4 => refSameRec_any W a b (LT W.heap.size) (LT W.heap.size) A na ca A2 na2 ca2 B nb cb B2 nb2 cb2 h1 h2 h3 h4
theorem entersSR : ∀ (args : Array Value) (W : World), (callFunc 17 args).run Tryz.prog W = .ok (.enter 17 args) W :=
  entersW Tryz.func17 (by kernel_rfl) (by kernel_rfl)
theorem byt_nw {w : World} {A : Option Addr} {n c : Nat} {l : List UInt8} (h : Byt w (LT w.heap.size) A n c l) : Byt w (NW 0 w.heap.size) A n c l := ⟨h.1, h.2.more sByte fun b hb => ⟨Nat.zero_le _, hb⟩⟩
/-- Two disks at places of their own, held against each other. -/
theorem same_at (W : World) (a b : Dk) (A : Option Addr) (n c : Nat) (B : Option Addr) (m e : Nat) (A2 : Option Addr) (n2 c2 : Nat) (B2 : Option Addr) (m2 e2 : Nat) (h : a = b) (hA : Byt W (LT W.heap.size) A n c a.safe) (hB : Byt W (LT W.heap.size) B m e a.wait) (hA2 : Byt W (LT W.heap.size) A2 n2 c2 b.safe) (hB2 : Byt W (LT W.heap.size) B2 m2 e2 b.wait) :
    Calls Tryz.prog 12 #[.agg #[.slice A n c, .slice B m e], .agg #[.slice A2 n2 c2, .slice B2 m2 e2]] W fun r w' => r = .returned (.bool true) ∧ Fr W w' := by
  have := refSameDisk_any W a b A n c B m e A2 n2 c2 B2 m2 e2 hA hB hA2 hB2
  rw [decide_eq_true h] at this
  exact this
set_option maxRecDepth 100000 in
set_option maxHeartbeats 16000000 in
theorem diskSays_law (w : World) (v : Vars w) (d : Dk) (A : Option Addr) (n c : Nat) (B : Option Addr) (m e : Nat) (hA : Byt w (LT w.heap.size) A n c d.safe) (hB : Byt w (LT w.heap.size) B m e d.wait) (r : Rc) (Ar : Option Addr) (na ca : Nat) (Br : Option Addr) (nb cb : Nat) (hr : r.wf) (hAr : Byt w (LT w.heap.size) Ar na ca r.s.data) (hBr : Byt w (LT w.heap.size) Br nb cb r.cargo) (k : Int) (hk : wfI k) (x : Dk) (Cx : Option Addr) (nx0 cx0 : Nat) (Dx : Option Addr) (mx0 ex0 : Nat) (hC : Byt w (LT w.heap.size) Cx nx0 cx0 x.safe) (hD : Byt w (LT w.heap.size) Dx mx0 ex0 x.wait) :
    Calls Tryz.prog 3 #[.agg #[.slice A n c, .slice B m e], .agg #[.int .i64 r.kind, .int .i64 r.place, .int .i64 r.n, .int .i64 r.try_, .int .i64 r.h.frm, .int .i64 r.h.seq, .int .i64 r.h.to, .int .i64 r.h.till, .int .i64 r.h.bytes, .int .i64 r.h.block, .int .i64 r.s.id, .slice Ar na ca, .slice Br nb cb], .int .i64 k, .agg #[.slice Cx nx0 cx0, .slice Dx mx0 ex0]] w fun e' w' => e' = .returned (.bool true) ∧ Fr w w' := by
  obtain ⟨W1, hW1⟩ : ∃ W1, W1 = ((w.alloc (.cells #[.slice A n c, .slice B m e] 24)).alloc (.cells #[.int .i64 r.kind, .int .i64 r.place, .int .i64 r.n, .int .i64 r.try_, .int .i64 r.h.frm, .int .i64 r.h.seq, .int .i64 r.h.to, .int .i64 r.h.till, .int .i64 r.h.bytes, .int .i64 r.h.block, .int .i64 r.s.id, .slice Ar na ca, .slice Br nb cb] 33)).alloc (.cells #[.slice Cx nx0 cx0, .slice Dx mx0 ex0] 24) := ⟨_, rfl⟩
  obtain ⟨p, hp⟩ : ∃ p, p = w.heap.size := ⟨_, rfl⟩
  obtain ⟨g, hg⟩ : ∃ g, g = w.heap.size + 1 := ⟨_, rfl⟩
  obtain ⟨y, hy⟩ : ∃ y, y = w.heap.size + 2 := ⟨_, rfl⟩
  have hp1 : W1.heap[p]? = some (.cells #[.slice A n c, .slice B m e] 24 (0, 0)) := by rw [hW1]; exact heap_old (heap_old (heap_new hp))
  have hg1 : W1.heap[g]? = some (.cells #[.int .i64 r.kind, .int .i64 r.place, .int .i64 r.n, .int .i64 r.try_, .int .i64 r.h.frm, .int .i64 r.h.seq, .int .i64 r.h.to, .int .i64 r.h.till, .int .i64 r.h.bytes, .int .i64 r.h.block, .int .i64 r.s.id, .slice Ar na ca, .slice Br nb cb] 33 (0, 0)) := by rw [hW1]; exact heap_old (heap_new (by rw [hg]; simp))
  have hy1 : W1.heap[y]? = some (.cells #[.slice Cx nx0 cx0, .slice Dx mx0 ex0] 24 (0, 0)) := by rw [hW1]; exact heap_new (by rw [hy]; simp)
  have HF1 : Hid (Fr w W1) := by rw [hW1]; exact ((frAlloc _ _).trans (frAlloc _ _)).trans (frAlloc _ _)
  have HP1 := Lib.hid hp1
  have HG1 := Lib.hid hg1
  have HY1 := Lib.hid hy1
  obtain ⟨bad, hbad⟩ : ∃ bad, bad = diskCheck d := ⟨_, rfl⟩
  obtain ⟨da, ea, hpa⟩ : ∃ da ea, putF d r = (da, ea) := ⟨_, _, rfl⟩
  obtain ⟨db, eb, hpb⟩ : ∃ db eb, syncF d = (db, eb) := ⟨_, _, rfl⟩
  obtain ⟨dk, ek, hpk⟩ : ∃ dk ek, crashF d k = (dk, ek) := ⟨_, _, rfl⟩
  obtain ⟨dr, lr, er, hpr⟩ : ∃ dr lr er, recoverF d = ((dr, lr), er) := ⟨_, _, _, rfl⟩
  obtain ⟨sx, hsx⟩ : ∃ sx, sx = decide (d = x) := ⟨_, rfl⟩
  have C1 : Hid (∀ W, Fr w W → Calls Tryz.prog 4 #[.agg #[.slice A n c, .slice B m e], .agg #[.int .i64 r.kind, .int .i64 r.place, .int .i64 r.n, .int .i64 r.try_, .int .i64 r.h.frm, .int .i64 r.h.seq, .int .i64 r.h.to, .int .i64 r.h.till, .int .i64 r.h.bytes, .int .i64 r.h.block, .int .i64 r.s.id, .slice Ar na ca, .slice Br nb cb]] W (KPost W (da, ea))) := fun W hf => by rw [← hpa]; exact diskPut_any W (v.go hf) d r A n c B m e Ar na ca Br nb cb (hA.go hf) (hB.go hf) hr (hAr.go hf) (hBr.go hf)
  have C2 : Hid (∀ W, Fr w W → Calls Tryz.prog 5 #[.agg #[.slice A n c, .slice B m e]] W (KPost W (db, eb))) := fun W hf => by rw [← hpb]; exact diskSync_any W (v.go hf) d A n c B m e (hA.go hf) (hB.go hf)
  have C3 : Hid (∀ W, Fr w W → Calls Tryz.prog 6 #[.agg #[.slice A n c, .slice B m e], .int .i64 k] W (KPost W (dk, ek))) := fun W hf => by rw [← hpk]; exact diskCrash_any W (v.go hf) d A n c B m e (hA.go hf) (hB.go hf) k
  have C4 : Hid (∀ W, Fr w W → Calls Tryz.prog 7 #[.agg #[.slice A n c, .slice B m e]] W (VPost W ((dr, lr), er))) := fun W hf => by rw [← hpr]; exact diskRecover_any W (v.go hf) d A n c B m e (hA.go hf) (hB.go hf)
  have C5 : Hid (∀ W, Fr w W → Calls Tryz.prog 8 #[.agg #[.slice A n c, .slice B m e]] W fun r w' => r = .returned (.int .i64 bad) ∧ Fr W w') := fun W hf => by rw [hbad]; exact refCheckDisk_any W (v.go hf) d A n c B m e (hA.go hf) (hB.go hf)
  have C6 : Hid (∀ W, Fr w W → Calls Tryz.prog 10 #[.agg #[.slice A n c, .slice B m e]] W fun r w' => r = .returned (.int .i64 bad) ∧ Fr W w') := fun W hf => by rw [hbad]; exact diskCheck_any W (v.go hf) d A n c B m e (hA.go hf) (hB.go hf)
  have C7 : Hid (∀ W, Fr w W → Calls Tryz.prog 11 #[.agg #[.slice A n c, .slice B m e], .agg #[.slice Cx nx0 cx0, .slice Dx mx0 ex0]] W fun r w' => r = .returned (.bool sx) ∧ Fr W w') := fun W hf => by rw [hsx]; exact diskSame_any W d x A n c B m e Cx nx0 cx0 Dx mx0 ex0 (hA.go hf) (hB.go hf) (hC.go hf) (hD.go hf)
  have C8 : Hid (∀ W, Fr w W → Calls Tryz.prog 12 #[.agg #[.slice A n c, .slice B m e], .agg #[.slice Cx nx0 cx0, .slice Dx mx0 ex0]] W fun r w' => r = .returned (.bool sx) ∧ Fr W w') := fun W hf => by rw [hsx]; exact refSameDisk_any W d x A n c B m e Cx nx0 cx0 Dx mx0 ex0 (hA.go hf) (hB.go hf) (hC.go hf) (hD.go hf)
  have HV := Lib.hid v
  have HA := Lib.hid hA
  have HB := Lib.hid hB
  have HR := Lib.hid hr
  have HAr := Lib.hid hAr
  have HBr := Lib.hid hBr
  have HBAD := Lib.hid hbad
  have HPA := Lib.hid hpa
  have HPB := Lib.hid hpb
  have HPK := Lib.hid hpk
  have HPR := Lib.hid hpr
  have HK := Lib.hid hk
  clear hp1 hg1 hy1 v hA hB hr hAr hBr hC hD hbad hpa hpb hpk hpr hsx hk
  have hpx := HP1.out
  have hgx := HG1.out
  (obtain ⟨bp0, bp1⟩ := box2_ hpx)
  (obtain ⟨bg0, bg1, bg2, bg3, bg4, bg5, bg6, bg7, bg8, bg9, bg10, bg11, bg12⟩ := box13_ hgx)
  clear hpx hgx
  go_enter Tryz.func3, Tryz.ntmps3
  go_upto_region 1 with fail
  rw [← hW1, ← hy, ← hg, ← hp]
  clear hW1 hp hg hy
  go_wp2_with fail
  (with_reducible refine (C1.out _ HF1.out).mono ?_)
  rintro e1 w2 h2
  clear bp0 bp1 bg0 bg1 bg2 bg3 bg4 bg5 bg6 bg7 bg8 bg9 bg10 bg11 bg12 C1
  obtain ⟨A5, n5, c5, B5, m5, e5, rfl, ha5, hb5, hf5⟩ := h2
  go_upto_region 2 with fail
  obtain ⟨V2, hV⟩ : ∃ V, V = w2.alloc (.cells #[.slice A5 n5 c5, .slice B5 m5 e5] 24) := ⟨_, rfl⟩
  obtain ⟨ba, hb⟩ : ∃ b, b = w2.heap.size := ⟨_, rfl⟩
  rw [← hV, ← hb]
  have Ha2 : Hid (DkAt V2 ba da) := by rw [hV, hb]; exact DkAt.mk ha5 hb5
  have hfv := Fr.trans hf5 (frAlloc w2 (.cells #[.slice A5 n5 c5, .slice B5 m5 e5] 24))
  rw [← hV] at hfv
  have HP2 := Lib.hid (blk_go HP1.out hfv)
  have HG2 := Lib.hid (blk_go HG1.out hfv)
  have HY2 := Lib.hid (blk_go HY1.out hfv)
  have HF2 : Hid (Fr w V2) := HF1.out.trans hfv
  clear HP1 HG1 HY1 HF1
  clear ha5 hb5 hf5 hfv hV hb
  have hpx := HP2.out
  (obtain ⟨bp0, bp1⟩ := box2_ hpx)
  clear hpx
  go_wp2_with fail
  (with_reducible refine (C2.out _ HF2.out).mono ?_)
  rintro e1 w3 h3
  clear bp0 bp1 C2
  obtain ⟨A5, n5, c5, B5, m5, e5, rfl, ha5, hb5, hf5⟩ := h3
  go_upto_region 3 with fail
  obtain ⟨V3, hV⟩ : ∃ V, V = w3.alloc (.cells #[.slice A5 n5 c5, .slice B5 m5 e5] 24) := ⟨_, rfl⟩
  obtain ⟨bb, hb⟩ : ∃ b, b = w3.heap.size := ⟨_, rfl⟩
  rw [← hV, ← hb]
  have Hb3 : Hid (DkAt V3 bb db) := by rw [hV, hb]; exact DkAt.mk ha5 hb5
  have hfv := Fr.trans hf5 (frAlloc w3 (.cells #[.slice A5 n5 c5, .slice B5 m5 e5] 24))
  rw [← hV] at hfv
  have HP3 := Lib.hid (blk_go HP2.out hfv)
  have HG3 := Lib.hid (blk_go HG2.out hfv)
  have HY3 := Lib.hid (blk_go HY2.out hfv)
  have Ha3 := Lib.hid (Ha2.out.go hfv)
  have HF3 : Hid (Fr w V3) := HF2.out.trans hfv
  clear HP2 HG2 HY2 Ha2 HF2
  clear ha5 hb5 hf5 hfv hV hb
  have hpx := HP3.out
  (obtain ⟨bp0, bp1⟩ := box2_ hpx)
  clear hpx
  go_wp2_with fail
  (with_reducible refine (C3.out _ HF3.out).mono ?_)
  rintro e1 w4 h4
  clear bp0 bp1 C3
  obtain ⟨A5, n5, c5, B5, m5, e5, rfl, ha5, hb5, hf5⟩ := h4
  go_upto_region 4 with fail
  obtain ⟨V4, hV⟩ : ∃ V, V = w4.alloc (.cells #[.slice A5 n5 c5, .slice B5 m5 e5] 24) := ⟨_, rfl⟩
  obtain ⟨bk, hb⟩ : ∃ b, b = w4.heap.size := ⟨_, rfl⟩
  rw [← hV, ← hb]
  have Hk4 : Hid (DkAt V4 bk dk) := by rw [hV, hb]; exact DkAt.mk ha5 hb5
  have hfv := Fr.trans hf5 (frAlloc w4 (.cells #[.slice A5 n5 c5, .slice B5 m5 e5] 24))
  rw [← hV] at hfv
  have HP4 := Lib.hid (blk_go HP3.out hfv)
  have HG4 := Lib.hid (blk_go HG3.out hfv)
  have HY4 := Lib.hid (blk_go HY3.out hfv)
  have Ha4 := Lib.hid (Ha3.out.go hfv)
  have Hb4 := Lib.hid (Hb3.out.go hfv)
  have HF4 : Hid (Fr w V4) := HF3.out.trans hfv
  clear HP3 HG3 HY3 Ha3 Hb3 HF3
  clear ha5 hb5 hf5 hfv hV hb
  have hpx := HP4.out
  (obtain ⟨bp0, bp1⟩ := box2_ hpx)
  clear hpx
  go_wp2_with fail
  (with_reducible refine (C4.out _ HF4.out).mono ?_)
  rintro e1 w5 h5
  clear bp0 bp1 C4
  obtain ⟨A5, n5, c5, vl, rfl, hwl, ha5, ho5, hf5⟩ := h5
  obtain ⟨Al, cl, rfl, _, hsl⟩ := ho5.slN sRc (Nat.le_refl _)
  go_upto_region 5 with fail
  obtain ⟨V5, hV⟩ : ∃ V, V = w5.alloc (.cells #[.slice A5 n5 c5, .slice none 0 0] 24) := ⟨_, rfl⟩
  obtain ⟨br, hb⟩ : ∃ b, b = w5.heap.size := ⟨_, rfl⟩
  rw [← hV, ← hb]
  have hwl : dr.wait = [] := hwl
  have Hr5 : Hid (DkAt V5 br dr) := by rw [hV, hb]; exact DkAt.mk ha5 (N := V4.heap.size) (show Byt w5 (NW V4.heap.size w5.heap.size) none 0 0 dr.wait by rw [hwl]; exact byt_nil)
  have hfv := Fr.trans hf5 (frAlloc w5 (.cells #[.slice A5 n5 c5, .slice none 0 0] 24))
  have hSL : Sl 13 eRc V5 (LT V5.heap.size) Al lr.length lr := by
    rw [hV]
    exact (hsl.more sRc fun b hb => hb.2 : Sl 13 eRc w5 (LT w5.heap.size) Al lr.length lr).go sRc (frAlloc _ _)
  have HSL5 := Lib.hid hSL
  rw [← hV] at hfv
  have HP5 := Lib.hid (blk_go HP4.out hfv)
  have HG5 := Lib.hid (blk_go HG4.out hfv)
  have HY5 := Lib.hid (blk_go HY4.out hfv)
  have Ha5 := Lib.hid (Ha4.out.go hfv)
  have Hb5 := Lib.hid (Hb4.out.go hfv)
  have Hk5 := Lib.hid (Hk4.out.go hfv)
  have HF5 : Hid (Fr w V5) := HF4.out.trans hfv
  clear HP4 HG4 HY4 Ha4 Hb4 Hk4 HF4
  clear ha5 ho5 hsl hSL hf5 hfv hV hb hwl
  have hpx := HP5.out
  (obtain ⟨bp0, bp1⟩ := box2_ hpx)
  clear hpx
  go_wp2_with fail
  (with_reducible refine (C5.out _ HF5.out).mono ?_)
  rintro e1 w6 ⟨rfl, hf6⟩
  clear bp0 bp1 C5
  go_upto_region 7 with fail
  obtain ⟨V6, hV⟩ : ∃ V, V = w6.alloc (.cells #[.slice none 0 0, .slice none 0 0] 24) := ⟨_, rfl⟩
  obtain ⟨bz, hb⟩ : ∃ b, b = w6.heap.size := ⟨_, rfl⟩
  rw [← hV, ← hb]
  have Hz6 : Hid (DkAt V6 bz Dk.zero) := by rw [hV, hb]; exact DkAt.mk (N := 0) (d := Dk.zero) byt_nil byt_nil
  have hfv := Fr.trans hf6 (frAlloc w6 (.cells #[.slice none 0 0, .slice none 0 0] 24))
  rw [← hV] at hfv
  have HSL6 : Hid (Sl 13 eRc V6 (LT V6.heap.size) Al lr.length lr) := HSL5.out.go sRc hfv
  have HP6 := Lib.hid (blk_go HP5.out hfv)
  have HG6 := Lib.hid (blk_go HG5.out hfv)
  have HY6 := Lib.hid (blk_go HY5.out hfv)
  have Ha6 := Lib.hid (Ha5.out.go hfv)
  have Hb6 := Lib.hid (Hb5.out.go hfv)
  have Hk6 := Lib.hid (Hk5.out.go hfv)
  have Hr6 := Lib.hid (Hr5.out.go hfv)
  have HF6 : Hid (Fr w V6) := HF5.out.trans hfv
  clear HP5 HG5 HY5 Ha5 Hb5 Hk5 Hr5 HF5
  clear HSL5 hf6 hfv hV hb
  have hpx := HP6.out
  have hyx := HY6.out
  (obtain ⟨bp0, bp1⟩ := box2_ hpx)
  (obtain ⟨by0, by1⟩ := box2_ hyx)
  have hpl := (Array.getElem?_eq_some_iff.1 hpx).1
  have hyl := (Array.getElem?_eq_some_iff.1 hyx).1
  have KEEP : Hid (∀ w', Fr V6 w' → Fr V6 w' ∧ w'.cell? ⟨p, 0, none⟩ = some (.slice A n c) ∧ w'.cell? ⟨p, 1, none⟩ = some (.slice B m e) ∧ w'.cell? ⟨y, 0, none⟩ = some (.slice Cx nx0 cx0) ∧ w'.cell? ⟨y, 1, none⟩ = some (.slice Dx mx0 ex0)) := fun w' hf => ⟨hf, (hf.cell (p := ⟨p, 0, none⟩) hpl).trans bp0, (hf.cell (p := ⟨p, 1, none⟩) hpl).trans bp1, (hf.cell (p := ⟨y, 0, none⟩) hyl).trans by0, (hf.cell (p := ⟨y, 1, none⟩) hyl).trans by1⟩
  clear hpx hyx hpl hyl bp0 bp1 by0 by1
  have q1 : (bad != bad) = false := by simp
  have q2 : (sx != sx) = false := by simp
  go_cut [68] (fun s68 wx => s68 = .bool false ∧ Hid (Fr V6 wx))
  case first =>
    refine held_begin (n := 17) (bs := #[false, false, false, false, false, false, false, false, false, false, false, false, false, false, false, false, false]) rfl rfl (by kernel_rfl) (S := fun w' => Fr V6 w' ∧ w'.cell? ⟨p, 0, none⟩ = some (.slice A n c) ∧ w'.cell? ⟨p, 1, none⟩ = some (.slice B m e) ∧ w'.cell? ⟨y, 0, none⟩ = some (.slice Cx nx0 cx0) ∧ w'.cell? ⟨y, 1, none⟩ = some (.slice Dx mx0 ex0)) (KEEP.out _ (Below.refl _ _).drew) (fun hHeld => ?_)
    refine held_one (i := 0) rfl (by kernel_rfl) (fun K hK => ?_)
    go_simp
    go_at_call 9
    (with_reducible refine (filed_any _ (HV.out.go HF6.out.drew)).mono ?_)
    rintro e1 w7 ⟨rfl, hf7⟩
    have HG7' : Hid (Fr V6 w7) := (Below.refl _ _).drew.trans hf7
    clear hf7
    (refine held_back hK (a' := ?hA1) (l' := ?hL1) ?ha1 ?hl1 (KEEP.out _ HG7'.out) (fun hHeld => ?hh1); (case ha1 => first | with_reducible rfl | (simp only [Act.put, hq1, hq2, hq3, Option.isNone, Bool.not_true, Bool.not_false]; (try with_reducible rfl))); (case hl1 => (simp only [Act.put, hq1, hq2, hq3, Option.isNone, Bool.not_true, Bool.not_false]; (try with_reducible rfl))); clear hK K)
    ((first | refine held_sk (i := 1) ?_ | refine held_tk (i := 1) ?_); (first | refine held_sk (i := 2) ?_ | refine held_tk (i := 2) ?_); (first | refine held_sk (i := 3) ?_ | refine held_tk (i := 3) ?_); (first | refine held_sk (i := 5) ?_ | refine held_tk (i := 5) ?_))
    refine held_one (i := 4) rfl (by kernel_rfl) (fun K hK => ?_)
    go_simp
    go_at_call 10
    (with_reducible refine (C6.out _ (HF6.out.trans HG7'.out)).mono ?_)
    rintro e1 w8 ⟨rfl, hf8⟩
    have HG8' : Hid (Fr V6 w8) := HG7'.out.trans hf8
    clear hf8
    (refine held_back hK (a' := ?hA2) (l' := ?hL2) ?ha2 ?hl2 (KEEP.out _ HG8'.out) (fun hHeld => ?hh2); (case ha2 => first | with_reducible rfl | (simp only [Act.put, hq1, hq2, hq3, Option.isNone, Bool.not_true, Bool.not_false]; (try with_reducible rfl))); (case hl2 => (simp only [Act.put, hq1, hq2, hq3, Option.isNone, Bool.not_true, Bool.not_false]; (try with_reducible rfl))); clear hK K)
    ((first | refine held_sk (i := 6) ?_ | refine held_tk (i := 6) ?_); (first | refine held_sk (i := 7) ?_ | refine held_tk (i := 7) ?_); (first | refine held_sk (i := 8) ?_ | refine held_tk (i := 8) ?_); (first | refine held_sk (i := 9) ?_ | refine held_tk (i := 9) ?_); (first | refine held_sk (i := 10) ?_ | refine held_tk (i := 10) ?_); (first | refine held_sk (i := 12) ?_ | refine held_tk (i := 12) ?_); (first | refine held_sk (i := 13) ?_ | refine held_tk (i := 13) ?_))
    refine held_one (i := 11) rfl (by kernel_rfl) (fun K hK => ?_)
    go_simp
    go_at_call 11
    (with_reducible refine (C7.out _ (HF6.out.trans HG8'.out)).mono ?_)
    rintro e1 w9 ⟨rfl, hf9⟩
    have HG9' : Hid (Fr V6 w9) := HG8'.out.trans hf9
    clear hf9
    (refine held_back hK (a' := ?hA3) (l' := ?hL3) ?ha3 ?hl3 (KEEP.out _ HG9'.out) (fun hHeld => ?hh3); (case ha3 => first | with_reducible rfl | (simp only [Act.put, hq1, hq2, hq3, Option.isNone, Bool.not_true, Bool.not_false]; (try with_reducible rfl))); (case hl3 => (simp only [Act.put, hq1, hq2, hq3, Option.isNone, Bool.not_true, Bool.not_false]; (try with_reducible rfl))); clear hK K)
    refine held_one (i := 14) rfl (by kernel_rfl) (fun K hK => ?_)
    go_simp
    go_at_call 12
    (with_reducible refine (C8.out _ (HF6.out.trans HG9'.out)).mono ?_)
    rintro e1 w10 ⟨rfl, hf10⟩
    have HG10' : Hid (Fr V6 w10) := HG9'.out.trans hf10
    clear hf10
    (refine held_back hK (a' := ?hA4) (l' := ?hL4) ?ha4 ?hl4 (KEEP.out _ HG10'.out) (fun hHeld => ?hh4); (case ha4 => first | with_reducible rfl | (simp only [Act.put, hq1, hq2, hq3, Option.isNone, Bool.not_true, Bool.not_false]; (try with_reducible rfl))); (case hl4 => (simp only [Act.put, hq1, hq2, hq3, Option.isNone, Bool.not_true, Bool.not_false]; (try with_reducible rfl))); clear hK K)
    ((first | refine held_sk (i := 15) ?_ | refine held_tk (i := 15) ?_); (first | refine held_sk (i := 16) ?_ | refine held_tk (i := 16) ?_))
    refine wpAnyH_done (by kernel_rfl) ?_ _
    clear hHeld
    go_wp2_with fail
    go_meet
    exact ⟨by simp, HG10'.out⟩
  case rest =>
  obtain ⟨rfl, hcf⟩ := hcut
  obtain ⟨V7, rfl⟩ : ∃ V7, V7 = wc := ⟨_, rfl⟩
  have hf7 := hcf.out
  have HSL7 : Hid (Sl 13 eRc V7 (LT V7.heap.size) Al lr.length lr) := HSL6.out.go sRc hf7
  have HP7 := Lib.hid (blk_go HP6.out hf7)
  have HG7 := Lib.hid (blk_go HG6.out hf7)
  have HY7 := Lib.hid (blk_go HY6.out hf7)
  have Ha7 := Lib.hid (Ha6.out.go hf7)
  have Hb7 := Lib.hid (Hb6.out.go hf7)
  have Hk7 := Lib.hid (Hk6.out.go hf7)
  have Hr7 := Lib.hid (Hr6.out.go hf7)
  have Hz7 := Lib.hid (Hz6.out.go hf7)
  have HF7 : Hid (Fr w V7) := HF6.out.trans hf7
  clear HP6 HG6 HY6 Ha6 Hb6 Hk6 Hr6 Hz6 HF6
  clear hcf hf7 HSL6 KEEP C6 C7 C8
  by_cases hbd : bad = 0
  case neg =>
    have hb0 : diskCheck d ≠ 0 := by rw [← HBAD.out]; exact hbd
    have h1 := HPA.out
    have h2 := HPB.out
    have h3 := HPK.out
    have h4 := HPR.out
    rw [putF_bad r hb0] at h1
    rw [syncF_bad hb0] at h2
    rw [crashF_bad k hb0] at h3
    rw [recoverF_bad hb0] at h4
    rw [← HBAD.out] at h1 h2 h3 h4
    simp only [Prod.mk.injEq] at h1 h2 h3 h4
    obtain ⟨a1, a2⟩ := h1
    obtain ⟨b1, b2⟩ := h2
    obtain ⟨k1, k2⟩ := h3
    obtain ⟨⟨r1, r2⟩, r3⟩ := h4
    have hn0 : lr.length = 0 := by rw [← r2]; rfl
    have t0 : (bad != 0) = true := by simp [hbd]
    have t1 : (ea == bad) = true := by simp [a2]
    have t2 : (eb == bad) = true := by simp [b2]
    have t3 : (ek == bad) = true := by simp [k2]
    have t4 : (er == bad) = true := by simp [r3]
    have t5 : ((lr.length : Int) == 0) = true := by simp [hn0]
    have HA1 := Lib.hid a1.symm
    have HB1 := Lib.hid b1.symm
    have HK1 := Lib.hid k1.symm
    have HR1 := Lib.hid r1.symm
    clear hb0 a1 a2 b1 b2 k1 k2 r1 r2 r3 hn0 hbd HSL7
    obtain ⟨Ax, nx, cx, Bx, mx, ex, hx1, hax, hbx⟩ := Ha7.out
    obtain ⟨Ay, ny, cy, By, my, ey, hy1, hay, hby⟩ := Hz7.out
    have SM := Lib.hid (same_at V7 _ _ Ax nx cx Bx mx ex Ay ny cy By my ey HA1.out (byt_lt hax) (byt_lt hbx) (byt_lt hay) (byt_lt hby))
    (obtain ⟨bx0, bx1⟩ := box2_ hx1)
    (obtain ⟨by0, by1⟩ := box2_ hy1)
    clear hx1 hax hbx hy1 hay hby
    go_wp2_with fail
    (with_reducible refine (SM.out).mono ?_)
    rintro rs V8 ⟨rfl, hfs⟩
    clear bx0 bx1 by0 by1 SM
    have Hb8 := Lib.hid (Hb7.out.go hfs)
    have Hk8 := Lib.hid (Hk7.out.go hfs)
    have Hr8 := Lib.hid (Hr7.out.go hfs)
    have Hz8 := Lib.hid (Hz7.out.go hfs)
    have HF8 : Hid (Fr w V8) := HF7.out.trans hfs
    clear hfs
    obtain ⟨Ax, nx, cx, Bx, mx, ex, hx1, hax, hbx⟩ := Hb8.out
    obtain ⟨Ay, ny, cy, By, my, ey, hy1, hay, hby⟩ := Hz8.out
    have SM := Lib.hid (same_at V8 _ _ Ax nx cx Bx mx ex Ay ny cy By my ey HB1.out (byt_lt hax) (byt_lt hbx) (byt_lt hay) (byt_lt hby))
    (obtain ⟨bx0, bx1⟩ := box2_ hx1)
    (obtain ⟨by0, by1⟩ := box2_ hy1)
    clear hx1 hax hbx hy1 hay hby
    go_wp2_with fail
    (with_reducible refine (SM.out).mono ?_)
    rintro rs V9 ⟨rfl, hfs⟩
    clear bx0 bx1 by0 by1 SM
    have Hk9 := Lib.hid (Hk8.out.go hfs)
    have Hr9 := Lib.hid (Hr8.out.go hfs)
    have Hz9 := Lib.hid (Hz8.out.go hfs)
    have HF9 : Hid (Fr w V9) := HF8.out.trans hfs
    clear hfs
    obtain ⟨Ax, nx, cx, Bx, mx, ex, hx1, hax, hbx⟩ := Hk9.out
    obtain ⟨Ay, ny, cy, By, my, ey, hy1, hay, hby⟩ := Hz9.out
    have SM := Lib.hid (same_at V9 _ _ Ax nx cx Bx mx ex Ay ny cy By my ey HK1.out (byt_lt hax) (byt_lt hbx) (byt_lt hay) (byt_lt hby))
    (obtain ⟨bx0, bx1⟩ := box2_ hx1)
    (obtain ⟨by0, by1⟩ := box2_ hy1)
    clear hx1 hax hbx hy1 hay hby
    go_wp2_with fail
    (with_reducible refine (SM.out).mono ?_)
    rintro rs V10 ⟨rfl, hfs⟩
    clear bx0 bx1 by0 by1 SM
    have Hr10 := Lib.hid (Hr9.out.go hfs)
    have Hz10 := Lib.hid (Hz9.out.go hfs)
    have HF10 : Hid (Fr w V10) := HF9.out.trans hfs
    clear hfs
    obtain ⟨Ax, nx, cx, Bx, mx, ex, hx1, hax, hbx⟩ := Hr10.out
    obtain ⟨Ay, ny, cy, By, my, ey, hy1, hay, hby⟩ := Hz10.out
    have SM := Lib.hid (same_at V10 _ _ Ax nx cx Bx mx ex Ay ny cy By my ey HR1.out (byt_lt hax) (byt_lt hbx) (byt_lt hay) (byt_lt hby))
    (obtain ⟨bx0, bx1⟩ := box2_ hx1)
    (obtain ⟨by0, by1⟩ := box2_ hy1)
    clear hx1 hax hbx hy1 hay hby
    go_wp2_with fail
    (with_reducible refine (SM.out).mono ?_)
    rintro rs V11 ⟨rfl, hfs⟩
    clear bx0 bx1 by0 by1 SM
    have HF11 : Hid (Fr w V11) := HF10.out.trans hfs
    clear hfs
    go_wp2_with fail
    go_ret
    exact ⟨rfl, HF11.out⟩
  case pos =>
  have hb0 : diskCheck d = 0 := by rw [← HBAD.out]; exact hbd
  have hok := diskCheck_ok hb0
  have hsz : n + m ≤ 60000 := by have := hok.size; rw [HA.out.2.1, HB.out.2.1] at this; exact this
  have h1 := HPA.out
  have h2 := HPB.out
  have h4 := HPR.out
  rw [putF_R r hb0] at h1
  rw [syncF_R hb0] at h2
  rw [recoverF_R hb0] at h4
  simp only [Prod.mk.injEq] at h4
  have hmany : lr.length ≤ 400 := by
    rw [show lr = (recR d).2 by rw [h4.1]]
    show ((linesF 200 d.safe).1 ++ (linesF (200 - (linesF 200 d.safe).1.length) d.wait).1).length ≤ 400
    have q1 := (linesF_ok 200 d.safe).many
    have q2 := (linesF_ok (200 - (linesF 200 d.safe).1.length) d.wait).many
    rw [List.length_append]; omega
  have her : er = 0 := h4.2.symm
  have HRR : Hid (recR d = (dr, lr)) := h4.1
  have HDW : Hid (dr.wait = []) := by rw [Hid, ← show (recR d).1 = dr by rw [HRR.out]]; rfl
  have C9 : Hid (∀ W, Fr w W → Calls Tryz.prog 13 #[.agg #[.slice A n c, .slice B m e], .agg #[.int .i64 r.kind, .int .i64 r.place, .int .i64 r.n, .int .i64 r.try_, .int .i64 r.h.frm, .int .i64 r.h.seq, .int .i64 r.h.to, .int .i64 r.h.till, .int .i64 r.h.bytes, .int .i64 r.h.block, .int .i64 r.s.id, .slice Ar na ca, .slice Br nb cb]] W fun e' w' => ∃ A5 n5 c5 B5 m5 e5, e' = .returned (.tuple #[.agg #[.slice A5 n5 c5, .slice B5 m5 e5], .int .i64 ea]) ∧ Byt w' (LT w'.heap.size) A5 n5 c5 da.safe ∧ Byt w' (LT w'.heap.size) B5 m5 e5 da.wait ∧ Fr W w') := fun W hf => by
    have := refPutOn_any W (HV.out.go hf) d r A n c B m e Ar na ca Br nb cb (HA.out.go hf) (HB.out.go hf) HR.out (HAr.out.go hf) (HBr.out.go hf) hsz
    rw [h1] at this
    exact this
  have C10 : Hid (∀ W, Fr w W → Calls Tryz.prog 14 #[.agg #[.slice A n c, .slice B m e]] W (KPost W (db, eb))) := fun W hf => by rw [← h2]; exact refSynced_any W (HV.out.go hf) d A n c B m e (HA.out.go hf) (HB.out.go hf) hsz
  have C11 : Hid (∀ W, Fr w W → Calls Tryz.prog 15 #[.agg #[.slice A n c, .slice B m e]] W fun e' w' => ∃ A5 n5 c5 A6 n6 c6, e' = .returned (.tuple #[.agg #[.slice A5 n5 c5, .slice none 0 0], .slice A6 n6 c6]) ∧ Byt w' (LT w'.heap.size) A5 n5 c5 dr.safe ∧ Sl 13 eRc w' (LT w'.heap.size) A6 n6 lr ∧ Fr W w') := fun W hf => by
    have := refRecovered_any W (HV.out.go hf) d A n c B m e (HA.out.go hf) (HB.out.go hf) hsz
    rw [HRR.out] at this
    exact this
  have t0 : (bad != 0) = false := by simp [hbd]
  have t1 : (ea != ea) = false := by simp
  have t2 : (eb != eb) = false := by simp
  have t3 : (er != 0) = false := by simp [her]
  have HB0 := Lib.hid hb0
  have HMANY := Lib.hid hmany
  have hpx := HP7.out
  have hgx := HG7.out
  (obtain ⟨bp0, bp1⟩ := box2_ hpx)
  (obtain ⟨bg0, bg1, bg2, bg3, bg4, bg5, bg6, bg7, bg8, bg9, bg10, bg11, bg12⟩ := box13_ hgx)
  clear hbd hok hsz h1 h2 h4 hmany her hpx hgx hb0
  go_wp2_with fail
  (with_reducible refine (C9.out _ HF7.out).mono ?_)
  rintro e1 w8 ⟨A5, n5, c5, B5, m5, e5, rfl, ha5, hb5, hf5⟩
  clear bp0 bp1 bg0 bg1 bg2 bg3 bg4 bg5 bg6 bg7 bg8 bg9 bg10 bg11 bg12 C9
  go_upto_region 12 with fail
  obtain ⟨V8, hV⟩ : ∃ V, V = w8.alloc (.cells #[.slice A5 n5 c5, .slice B5 m5 e5] 24) := ⟨_, rfl⟩
  obtain ⟨bA, hb⟩ : ∃ b, b = w8.heap.size := ⟨_, rfl⟩
  rw [← hV, ← hb]
  have HA28 : Hid (DkAt V8 bA da) := by rw [hV, hb]; exact DkAt.mk (byt_nw ha5) (byt_nw hb5)
  have hfv := Fr.trans hf5 (frAlloc w8 (.cells #[.slice A5 n5 c5, .slice B5 m5 e5] 24))
  rw [← hV] at hfv
  have HSL8 : Hid (Sl 13 eRc V8 (LT V8.heap.size) Al lr.length lr) := HSL7.out.go sRc hfv

  have HP8 := Lib.hid (blk_go HP7.out hfv)
  have HG8 := Lib.hid (blk_go HG7.out hfv)
  have HY8 := Lib.hid (blk_go HY7.out hfv)
  have Ha8 := Lib.hid (Ha7.out.go hfv)
  have Hb8 := Lib.hid (Hb7.out.go hfv)
  have Hk8 := Lib.hid (Hk7.out.go hfv)
  have Hr8 := Lib.hid (Hr7.out.go hfv)
  have Hz8 := Lib.hid (Hz7.out.go hfv)
  have HF8 : Hid (Fr w V8) := HF7.out.trans hfv
  clear HP7 HG7 HY7 Ha7 Hb7 Hk7 Hr7 Hz7 HF7
  clear ha5 hb5 hf5 hfv hV hb HSL7
  have hpx := HP8.out
  (obtain ⟨bp0, bp1⟩ := box2_ hpx)
  clear hpx
  go_wp2_with fail
  (with_reducible refine (C10.out _ HF8.out).mono ?_)
  rintro e1 w9 ⟨A5, n5, c5, B5, m5, e5, rfl, ha5, hb5, hf5⟩
  clear bp0 bp1 C10
  go_upto_region 13 with fail
  obtain ⟨V9, hV⟩ : ∃ V, V = w9.alloc (.cells #[.slice A5 n5 c5, .slice B5 m5 e5] 24) := ⟨_, rfl⟩
  obtain ⟨bB, hb⟩ : ∃ b, b = w9.heap.size := ⟨_, rfl⟩
  rw [← hV, ← hb]
  have HB29 : Hid (DkAt V9 bB db) := by rw [hV, hb]; exact DkAt.mk ha5 hb5
  have hfv := Fr.trans hf5 (frAlloc w9 (.cells #[.slice A5 n5 c5, .slice B5 m5 e5] 24))
  rw [← hV] at hfv
  have HSL9 : Hid (Sl 13 eRc V9 (LT V9.heap.size) Al lr.length lr) := HSL8.out.go sRc hfv
  have HP9 := Lib.hid (blk_go HP8.out hfv)
  have HG9 := Lib.hid (blk_go HG8.out hfv)
  have HY9 := Lib.hid (blk_go HY8.out hfv)
  have Ha9 := Lib.hid (Ha8.out.go hfv)
  have Hb9 := Lib.hid (Hb8.out.go hfv)
  have Hk9 := Lib.hid (Hk8.out.go hfv)
  have Hr9 := Lib.hid (Hr8.out.go hfv)
  have Hz9 := Lib.hid (Hz8.out.go hfv)
  have HA29 := Lib.hid (HA28.out.go hfv)
  have HF9 : Hid (Fr w V9) := HF8.out.trans hfv
  clear HP8 HG8 HY8 Ha8 Hb8 Hk8 Hr8 Hz8 HA28 HF8
  clear ha5 hb5 hf5 hfv hV hb HSL8
  have hpx := HP9.out
  (obtain ⟨bp0, bp1⟩ := box2_ hpx)
  clear hpx
  go_wp2_with fail
  (with_reducible refine (C11.out _ HF9.out).mono ?_)
  rintro e1 w10 ⟨A5, n5, c5, A6, n6, c6, rfl, ha5, hs6, hf5⟩
  clear bp0 bp1 C11
  go_upto_region 14 with fail
  obtain ⟨V10, hV⟩ : ∃ V, V = w10.alloc (.cells #[.slice A5 n5 c5, .slice none 0 0] 24) := ⟨_, rfl⟩
  obtain ⟨bR, hb⟩ : ∃ b, b = w10.heap.size := ⟨_, rfl⟩
  rw [← hV, ← hb]
  have HR210 : Hid (DkAt V10 bR dr) := by rw [hV, hb]; exact DkAt.mk (byt_nw ha5) (N := 0) (show Byt w10 (NW 0 w10.heap.size) none 0 0 dr.wait by rw [HDW.out]; exact byt_nil)
  have hfv := Fr.trans hf5 (frAlloc w10 (.cells #[.slice A5 n5 c5, .slice none 0 0] 24))
  have hsm : Sl 13 eRc V10 (LT V10.heap.size) A6 n6 lr := by rw [hV]; exact hs6.go sRc (frAlloc _ _)
  have HSM10 := Lib.hid hsm
  rw [← hV] at hfv
  have HSL10 : Hid (Sl 13 eRc V10 (LT V10.heap.size) Al lr.length lr) := HSL9.out.go sRc hfv
  have HP10 := Lib.hid (blk_go HP9.out hfv)
  have HG10 := Lib.hid (blk_go HG9.out hfv)
  have HY10 := Lib.hid (blk_go HY9.out hfv)
  have Ha10 := Lib.hid (Ha9.out.go hfv)
  have Hb10 := Lib.hid (Hb9.out.go hfv)
  have Hk10 := Lib.hid (Hk9.out.go hfv)
  have Hr10 := Lib.hid (Hr9.out.go hfv)
  have Hz10 := Lib.hid (Hz9.out.go hfv)
  have HA210 := Lib.hid (HA29.out.go hfv)
  have HB210 := Lib.hid (HB29.out.go hfv)
  have HF10 : Hid (Fr w V10) := HF9.out.trans hfv
  clear HP9 HG9 HY9 Ha9 Hb9 Hk9 Hr9 Hz9 HA29 HB29 HF9
  clear ha5 hs6 hf5 hfv hV hb HSL9 hsm
  obtain ⟨Ax, nx, cx, Bx, mx, ex, hx1, hax, hbx⟩ := Ha10.out
  obtain ⟨Ay, ny, cy, By, my, ey, hy1, hay, hby⟩ := HA210.out
  have SM := Lib.hid (same_at V10 _ _ Ax nx cx Bx mx ex Ay ny cy By my ey rfl (byt_lt hax) (byt_lt hbx) (byt_lt hay) (byt_lt hby))
  (obtain ⟨bx0, bx1⟩ := box2_ hx1)
  (obtain ⟨by0, by1⟩ := box2_ hy1)
  clear hx1 hax hbx hy1 hay hby
  go_wp2_with fail
  (with_reducible refine (SM.out).mono ?_)
  rintro rs V11 ⟨rfl, hfs⟩
  clear bx0 bx1 by0 by1 SM
  have HP11 := Lib.hid (blk_go HP10.out hfs)
  have HG11 := Lib.hid (blk_go HG10.out hfs)
  have HY11 := Lib.hid (blk_go HY10.out hfs)
  have Ha11 := Lib.hid (Ha10.out.go hfs)
  have Hb11 := Lib.hid (Hb10.out.go hfs)
  have Hk11 := Lib.hid (Hk10.out.go hfs)
  have Hr11 := Lib.hid (Hr10.out.go hfs)
  have Hz11 := Lib.hid (Hz10.out.go hfs)
  have HA211 := Lib.hid (HA210.out.go hfs)
  have HB211 := Lib.hid (HB210.out.go hfs)
  have HR211 := Lib.hid (HR210.out.go hfs)
  have HF11 : Hid (Fr w V11) := HF10.out.trans hfs
  clear HP10 HG10 HY10 Ha10 Hb10 Hk10 Hr10 Hz10 HA210 HB210 HR210 HF10
  have HSL11 : Hid (Sl 13 eRc V11 (LT V11.heap.size) Al lr.length lr) := HSL10.out.go sRc hfs
  have HSM11 : Hid (Sl 13 eRc V11 (LT V11.heap.size) A6 n6 lr) := HSM10.out.go sRc hfs
  clear hfs HSL10 HSM10
  obtain ⟨Ax, nx, cx, Bx, mx, ex, hx1, hax, hbx⟩ := Hb11.out
  obtain ⟨Ay, ny, cy, By, my, ey, hy1, hay, hby⟩ := HB211.out
  have SM := Lib.hid (same_at V11 _ _ Ax nx cx Bx mx ex Ay ny cy By my ey rfl (byt_lt hax) (byt_lt hbx) (byt_lt hay) (byt_lt hby))
  (obtain ⟨bx0, bx1⟩ := box2_ hx1)
  (obtain ⟨by0, by1⟩ := box2_ hy1)
  clear hx1 hax hbx hy1 hay hby
  go_wp2_with fail
  (with_reducible refine (SM.out).mono ?_)
  rintro rs V12 ⟨rfl, hfs⟩
  clear bx0 bx1 by0 by1 SM
  have HP12 := Lib.hid (blk_go HP11.out hfs)
  have HG12 := Lib.hid (blk_go HG11.out hfs)
  have HY12 := Lib.hid (blk_go HY11.out hfs)
  have Ha12 := Lib.hid (Ha11.out.go hfs)
  have Hb12 := Lib.hid (Hb11.out.go hfs)
  have Hk12 := Lib.hid (Hk11.out.go hfs)
  have Hr12 := Lib.hid (Hr11.out.go hfs)
  have Hz12 := Lib.hid (Hz11.out.go hfs)
  have HA212 := Lib.hid (HA211.out.go hfs)
  have HB212 := Lib.hid (HB211.out.go hfs)
  have HR212 := Lib.hid (HR211.out.go hfs)
  have HF12 : Hid (Fr w V12) := HF11.out.trans hfs
  clear HP11 HG11 HY11 Ha11 Hb11 Hk11 Hr11 Hz11 HA211 HB211 HR211 HF11
  have HSL12 : Hid (Sl 13 eRc V12 (LT V12.heap.size) Al lr.length lr) := HSL11.out.go sRc hfs
  have HSM12 : Hid (Sl 13 eRc V12 (LT V12.heap.size) A6 n6 lr) := HSM11.out.go sRc hfs
  clear hfs HSL11 HSM11
  obtain ⟨Ax, nx, cx, Bx, mx, ex, hx1, hax, hbx⟩ := Hr12.out
  obtain ⟨Ay, ny, cy, By, my, ey, hy1, hay, hby⟩ := HR212.out
  have SM := Lib.hid (same_at V12 _ _ Ax nx cx Bx mx ex Ay ny cy By my ey rfl (byt_lt hax) (byt_lt hbx) (byt_lt hay) (byt_lt hby))
  (obtain ⟨bx0, bx1⟩ := box2_ hx1)
  (obtain ⟨by0, by1⟩ := box2_ hy1)
  clear hx1 hax hbx hy1 hay hby
  go_wp2_with fail
  (with_reducible refine (SM.out).mono ?_)
  rintro rs V13 ⟨rfl, hfs⟩
  clear bx0 bx1 by0 by1 SM
  have HP13 := Lib.hid (blk_go HP12.out hfs)
  have HG13 := Lib.hid (blk_go HG12.out hfs)
  have HY13 := Lib.hid (blk_go HY12.out hfs)
  have Ha13 := Lib.hid (Ha12.out.go hfs)
  have Hb13 := Lib.hid (Hb12.out.go hfs)
  have Hk13 := Lib.hid (Hk12.out.go hfs)
  have Hr13 := Lib.hid (Hr12.out.go hfs)
  have Hz13 := Lib.hid (Hz12.out.go hfs)
  have HA213 := Lib.hid (HA212.out.go hfs)
  have HB213 := Lib.hid (HB212.out.go hfs)
  have HR213 := Lib.hid (HR212.out.go hfs)
  have HF13 : Hid (Fr w V13) := HF12.out.trans hfs
  clear HP12 HG12 HY12 Ha12 Hb12 Hk12 Hr12 Hz12 HA212 HB212 HR212 HF12
  have HEQ : Hid (Calls Tryz.prog 16 #[.slice Al lr.length cl, .slice A6 n6 c6, .func (.func 17) #[] #[]] V13 fun e w' => e = .returned (.bool true) ∧ Fr V13 w') := by
    have := equalFuncRc_any V13 17 entersSR saysRcR Al A6 lr.length cl n6 c6 lr lr (HSL12.out.go sRc hfs) (HSM12.out.go sRc hfs) (by have := HMANY.out; unfold maxLen; omega)
    rw [decide_eq_true (rfl : lr = lr)] at this
    exact this
  clear hfs HSL12 HSM12
  go_wp2_with fail
  (with_reducible refine (HEQ.out).mono ?_)
  rintro e1 V14 ⟨rfl, hfs⟩
  have HP14 := Lib.hid (blk_go HP13.out hfs)
  have HG14 := Lib.hid (blk_go HG13.out hfs)
  have HY14 := Lib.hid (blk_go HY13.out hfs)
  have Ha14 := Lib.hid (Ha13.out.go hfs)
  have Hb14 := Lib.hid (Hb13.out.go hfs)
  have Hk14 := Lib.hid (Hk13.out.go hfs)
  have Hr14 := Lib.hid (Hr13.out.go hfs)
  have Hz14 := Lib.hid (Hz13.out.go hfs)
  have HA214 := Lib.hid (HA213.out.go hfs)
  have HB214 := Lib.hid (HB213.out.go hfs)
  have HR214 := Lib.hid (HR213.out.go hfs)
  have HF14 : Hid (Fr w V14) := HF13.out.trans hfs
  clear HP13 HG13 HY13 Ha13 Hb13 Hk13 Hr13 Hz13 HA213 HB213 HR213 HF13
  clear hfs HEQ
  have hpx := HP14.out
  (obtain ⟨bp0, bp1⟩ := box2_ hpx)
  have h3 := HPK.out
  by_cases hkr : k < 0 ∨ (m : Int) < k
  case pos =>
    rw [crashF_out HB0.out (by rw [HB.out.2.1]; exact hkr)] at h3
    simp only [Prod.mk.injEq] at h3
    obtain ⟨k1, k2⟩ := h3
    have t4 : (ek == 3) = true := by simp [← k2]
    have HK1 := Lib.hid k1.symm
    clear k1 k2 hpx
    go_upto_region 16 with fail
    go_cut [174] (fun s174 wx => s174 = .bool true ∧ wx = V14)
    case first =>
      by_cases h0 : k < 0
      · have t5 : decide (k < 0) = true := by simp [h0]
        clear hkr h0
        go_wp2_with fail
        go_meet
        exact ⟨rfl, rfl⟩
      · have t5 : decide (k < 0) = false := by simp [h0]
        have t6 : decide ((m : Int) < k) = true := by simp; omega
        clear hkr h0
        go_wp2_with fail
        go_meet
        exact ⟨rfl, rfl⟩
    case rest =>
    obtain ⟨rfl, hwc⟩ := hcut
    rw [hwc]
    clear hwc hkr bp0 bp1
    obtain ⟨Ax, nx, cx, Bx, mx, ex, hx1, hax, hbx⟩ := Hk14.out
    obtain ⟨Ay, ny, cy, By, my, ey, hy1, hay, hby⟩ := Hz14.out
    have SM := Lib.hid (same_at V14 _ _ Ax nx cx Bx mx ex Ay ny cy By my ey HK1.out (byt_lt hax) (byt_lt hbx) (byt_lt hay) (byt_lt hby))
    (obtain ⟨bx0, bx1⟩ := box2_ hx1)
    (obtain ⟨by0, by1⟩ := box2_ hy1)
    clear hx1 hax hbx hy1 hay hby
    go_wp2_with fail
    (with_reducible refine (SM.out).mono ?_)
    rintro rs V15 ⟨rfl, hfs⟩
    clear bx0 bx1 by0 by1 SM
    have HF15 : Hid (Fr w V15) := HF14.out.trans hfs
    clear hfs
    go_wp2_with fail
    go_ret
    exact ⟨rfl, HF15.out⟩
  case neg =>
  rw [crashF_in HB0.out (by rw [HB.out.2.1]; exact hkr)] at h3
  simp only [Prod.mk.injEq] at h3
  obtain ⟨k1, k2⟩ := h3
  obtain ⟨j, rfl⟩ := Int.eq_ofNat_of_zero_le (show 0 ≤ k by omega)
  have hjm : j ≤ m := by omega
  have hje : j ≤ e := by have := HB.out.1; omega
  have t4 : (ek == 0) = true := by simp [← k2]
  have t5 : decide ((j : Int) < 0) = false := by simp
  have t6 : decide ((m : Int) < (j : Int)) = false := by simp; omega
  have i1 : (j : Int) ≤ (e : Int) := by omega
  have i2 : 0 ≤ (j : Int) := by omega
  have hk1 : dk = ⟨d.safe, d.wait.take j⟩ := by rw [← k1, Int.toNat_natCast]
  obtain ⟨Ax, nx, cx, Bx, mx, ex, hx1, hax, hbx⟩ := Hk14.out
  have hb9 := HB.out.go HF14.out
  have hq1 := hb9.1
  have hbj : Byt V14 (LT V14.heap.size) B j e (d.wait.take j) := ⟨⟨by omega, hje, hq1.2.2⟩, hb9.2.pre hjm⟩
  have SM := Lib.hid (fun W (hf : Fr V14 W) => same_at W dk ⟨d.safe, d.wait.take j⟩ Ax nx cx Bx mx ex A n c B j e hk1 ((byt_lt hax).go hf) ((byt_lt hbx).go hf) ((HA.out.go HF14.out).go hf) (hbj.go hf))
  (obtain ⟨bx0, bx1⟩ := box2_ hx1)
  have hpl := (Array.getElem?_eq_some_iff.1 hpx).1
  have hxl := (Array.getElem?_eq_some_iff.1 hx1).1
  have KEEP : Hid (∀ w', Fr V14 w' → Fr V14 w' ∧ w'.cell? ⟨p, 0, none⟩ = some (.slice A n c) ∧ w'.cell? ⟨p, 1, none⟩ = some (.slice B m e) ∧ w'.cell? ⟨bk, 0, none⟩ = some (.slice Ax nx cx) ∧ w'.cell? ⟨bk, 1, none⟩ = some (.slice Bx mx ex)) := fun w' hf => ⟨hf, (hf.cell (p := ⟨p, 0, none⟩) hpl).trans bp0, (hf.cell (p := ⟨p, 1, none⟩) hpl).trans bp1, (hf.cell (p := ⟨bk, 0, none⟩) hxl).trans bx0, (hf.cell (p := ⟨bk, 1, none⟩) hxl).trans bx1⟩
  clear hkr k1 k2 hk1 hx1 hax hbx hb9 hq1 hbj hpx hpl hxl bx0 bx1
  go_upto_region 18 with fail
  refine held_begin (n := 14) (bs := #[false, false, false, false, false, false, false, false, false, false, false, false, false, false]) rfl rfl (by kernel_rfl) (S := fun w' => Fr V14 w' ∧ w'.cell? ⟨p, 0, none⟩ = some (.slice A n c) ∧ w'.cell? ⟨p, 1, none⟩ = some (.slice B m e) ∧ w'.cell? ⟨bk, 0, none⟩ = some (.slice Ax nx cx) ∧ w'.cell? ⟨bk, 1, none⟩ = some (.slice Bx mx ex)) (KEEP.out _ (Below.refl _ _).drew) (fun hHeld => ?_)
  ((first | refine held_sk (i := 0) ?_ | refine held_tk (i := 0) ?_); (first | refine held_sk (i := 1) ?_ | refine held_tk (i := 1) ?_); (first | refine held_sk (i := 2) ?_ | refine held_tk (i := 2) ?_); (first | refine held_sk (i := 3) ?_ | refine held_tk (i := 3) ?_); (first | refine held_sk (i := 4) ?_ | refine held_tk (i := 4) ?_); (first | refine held_sk (i := 5) ?_ | refine held_tk (i := 5) ?_); (first | refine held_sk (i := 6) ?_ | refine held_tk (i := 6) ?_); (first | refine held_sk (i := 7) ?_ | refine held_tk (i := 7) ?_); (first | refine held_sk (i := 8) ?_ | refine held_tk (i := 8) ?_); (first | refine held_sk (i := 9) ?_ | refine held_tk (i := 9) ?_); (first | refine held_sk (i := 10) ?_ | refine held_tk (i := 10) ?_))
  refine held_one (i := 11) rfl (by kernel_rfl) (fun K hK => ?_)
  go_simp
  go_at_call 12
  (with_reducible refine (SM.out _ (Below.refl _ _).drew).mono ?_)
  rintro e1 V15 ⟨rfl, hf15⟩
  have HG15 : Hid (Fr V14 V15) := (Below.refl _ _).drew.trans hf15
  have HF15 : Hid (Fr w V15) := HF14.out.trans HG15.out
  clear hf15
  (refine held_back hK (a' := ?hA5) (l' := ?hL5) ?ha5 ?hl5 (KEEP.out _ HG15.out) (fun hHeld => ?hh5); (case ha5 => first | with_reducible rfl | (simp only [Act.put, hq1, hq2, hq3, Option.isNone, Bool.not_true, Bool.not_false]; (try with_reducible rfl))); (case hl5 => (simp only [Act.put, hq1, hq2, hq3, Option.isNone, Bool.not_true, Bool.not_false]; (try with_reducible rfl))); clear hK K)
  ((first | refine held_sk (i := 12) ?_ | refine held_tk (i := 12) ?_); (first | refine held_sk (i := 13) ?_ | refine held_tk (i := 13) ?_))
  refine wpAnyH_done (by kernel_rfl) ?_ _
  clear hHeld bp0 bp1
  go_wp2_with fail
  go_ret
  exact ⟨rfl, HF15.out⟩
theorem diskSaysLaw.diskSays_any (w : World) (v : Vars w) (d : Dk) (A : Option Addr) (n c : Nat) (B : Option Addr) (m e : Nat) (hA : Byt w (LT w.heap.size) A n c d.safe) (hB : Byt w (LT w.heap.size) B m e d.wait) (r : Rc) (Ar : Option Addr) (na ca : Nat) (Br : Option Addr) (nb cb : Nat) (hr : r.wf) (hAr : Byt w (LT w.heap.size) Ar na ca r.s.data) (hBr : Byt w (LT w.heap.size) Br nb cb r.cargo) (k : Int) (hk : wfI k) (x : Dk) (Cx : Option Addr) (nx0 cx0 : Nat) (Dx : Option Addr) (mx0 ex0 : Nat) (hC : Byt w (LT w.heap.size) Cx nx0 cx0 x.safe) (hD : Byt w (LT w.heap.size) Dx mx0 ex0 x.wait) :
    Calls Tryz.prog 3 #[.agg #[.slice A n c, .slice B m e], .agg #[.int .i64 r.kind, .int .i64 r.place, .int .i64 r.n, .int .i64 r.try_, .int .i64 r.h.frm, .int .i64 r.h.seq, .int .i64 r.h.to, .int .i64 r.h.till, .int .i64 r.h.bytes, .int .i64 r.h.block, .int .i64 r.s.id, .slice Ar na ca, .slice Br nb cb], .int .i64 k, .agg #[.slice Cx nx0 cx0, .slice Dx mx0 ex0]] w fun e' w' => e' = .returned (.bool true) ∧ Fr w w' :=
  diskSays_law w v d A n c B m e hA hB r Ar na ca Br nb cb hr hAr hBr k hk x Cx nx0 cx0 Dx mx0 ex0 hC hD
end Go.Proofs.YtbincgbgeccccaaGreatDoor
namespace Go.Proofs.YtbincgbgeccccaaGreatDoor.diskSaysLaw
open Go.ChangeShapes Go.WideShapes Go.ChangeAt Go.RowKit

set_option maxRecDepth 100000 in
theorem lifted (os : Os) (started : os.Started) (H : Type) (enc : TypeId × Value → H) (F : Stop.Interp) :
    ReturnsInHanded {} Tryz.checked os 3 .any ((OpenSpec.ofChange Rows.diskSaysSpec).preRow enc Tryz.prog Tryz.f3 Rows.diskSaysRow.domain false Rows.diskSaysRow.laid) (((OpenSpec.ofChange Rows.diskSaysSpec).at F).post enc Tryz.prog Tryz.f3 false true false false) := by
  have hw : (DataW.whole enc Tryz.prog ((laidWorld os).forCall (fun _ _ => 0) ⟨#[], #[.agg #[.slice none 0 0, .slice none 0 0], .agg #[.int .i64 0, .int .i64 0, .int .i64 0, .int .i64 0, .int .i64 0, .int .i64 0, .int .i64 0, .int .i64 0, .int .i64 0, .int .i64 0, .int .i64 0, .slice none 0 0, .slice none 0 0], .int .i64 0, .agg #[.slice none 0 0, .slice none 0 0]], []⟩).memory Tryz.f3.params.toList Rows.diskSaysSpec.vars false #[.agg #[.slice none 0 0, .slice none 0 0], .agg #[.int .i64 0, .int .i64 0, .int .i64 0, .int .i64 0, .int .i64 0, .int .i64 0, .int .i64 0, .int .i64 0, .int .i64 0, .int .i64 0, .int .i64 0, .slice none 0 0, .slice none 0 0], .int .i64 0, .agg #[.slice none 0 0, .slice none 0 0]].toList 8).map (fun x => (x.1, x.2.1)) = some ([.agg [.nil, .nil], .agg [.lit (.int .i64 0), .lit (.int .i64 0), .lit (.int .i64 0), .lit (.int .i64 0), .agg [.lit (.int .i64 0), .lit (.int .i64 0), .lit (.int .i64 0), .lit (.int .i64 0), .agg [.lit (.int .i64 0), .lit (.int .i64 0)]], .agg [.lit (.int .i64 0), .nil], .nil], .lit (.int .i64 0), .agg [.nil, .nil]], []) := by kernel_rfl
  obtain ⟨⟨x1, x2, x3⟩, hx, hx1⟩ := Option.map_eq_some_iff.1 hw
  simp only [Prod.mk.injEq] at hx1
  obtain ⟨rfl, rfl⟩ := hx1
  refine returnsInHanded_of_row (C := Tryz.checked) (s := OpenSpec.ofChange Rows.diskSaysSpec) own started (by kernel_rfl) Tryz.func3
    (witness_row_atRef (enc := enc) (C := Tryz.checked) false (laidWorld os) #[.agg #[.slice none 0 0, .slice none 0 0], .agg #[.int .i64 0, .int .i64 0, .int .i64 0, .int .i64 0, .int .i64 0, .int .i64 0, .int .i64 0, .int .i64 0, .int .i64 0, .int .i64 0, .int .i64 0, .slice none 0 0, .slice none 0 0], .int .i64 0, .agg #[.slice none 0 0, .slice none 0 0]] rfl (by kernel_rfl) (by kernel_rfl) (by kernel_rfl)
      (OpenSpec.preRow_of_cond 8 hx (by kernel_rfl) (fun k hk => by cases hk) (by kernel_rfl) (laid_met os _))) ?_
  intro W base args ds gs before hval0 hW _ _ hsz0 hL hsh _
  have hvars : Vars W := vars_of (show laidMet Tryz.prog laidList W from hL) hsh
  have hval : ∀ (j : Nat) t v, Tryz.f3.params[j]? = some t → args[j]? = some v → Value.okWide Tryz.prog W .any base t v := hval0
  have hsz : (DataW.weightsEach Tryz.prog (Tryz.f3.params.toList ++ Rows.diskSaysSpec.plain.varTypes Tryz.prog) (ds ++ gs)).all (· ≤ reachBytes) = true := hsz0
  have hW' := hW
  obtain ⟨p, q, hA0, hV, rfl, hfz, hnd⟩ := hW
  have hA : DataW.TrodAll enc Tryz.prog W 0 (fun _ => true) true Tryz.f3.params.toList args.toList ds p := hA0
  rw [Tryz.params3] at hA hval hsz
  obtain ⟨v0, vs0, d0, ds0, p0, q0, hargs, rfl, rfl, h0, r0⟩ := trodAll_cons hA
  obtain ⟨v1, vs1, d1, ds1, p1, q1, rfl, rfl, rfl, h1, r1⟩ := trodAll_cons r0
  obtain ⟨v2, vs2, d2, ds2, p2, q2, rfl, rfl, rfl, h2, r2⟩ := trodAll_cons r1
  obtain ⟨v3, vs3, d3, ds3, p3, q3, rfl, rfl, rfl, h3, r3⟩ := trodAll_cons r2
  obtain ⟨rfl, rfl, rfl⟩ := trodAll_nil r3
  obtain rfl : args = #[v0, v1, v2, v3] := by cases args; simp_all
  obtain ⟨rfl, rfl⟩ := trodVars_none hV
  have k0 := h0
  have lt0 : ∀ x ∈ p0, x.block < W.heap.size := by obtain ⟨m, hm⟩ := k0; exact DataW.trod_lt m _ _ _ hm
  have s0 : ∀ n ∈ d0.weights Tryz.prog 24, n ≤ reachBytes := fun n hn => of_decide_eq_true (List.all_eq_true.1 hsz n (DataW.weights_mem_each (j := 0) rfl rfl n hn))
  obtain ⟨m0, A0, n0, c0, B0, f0, g0, rfl, by0, bz0⟩ := openDisk (hval 0 24 v0 rfl rfl) h0 s0
  have k1 := h1
  have lt1 : ∀ x ∈ p1, x.block < W.heap.size := by obtain ⟨m, hm⟩ := k1; exact DataW.trod_lt m _ _ _ hm
  have s1 : ∀ n ∈ d1.weights Tryz.prog 33, n ≤ reachBytes := fun n hn => of_decide_eq_true (List.all_eq_true.1 hsz n (DataW.weights_mem_each (j := 1) rfl rfl n hn))
  obtain ⟨m1, A1, n1, c1, B1, f1, g1, rfl, wf1, by1, bz1⟩ := openRec (hval 1 33 v1 rfl rfl) h1 s1
  have k2 := h2
  have lt2 : ∀ x ∈ p2, x.block < W.heap.size := by obtain ⟨m, hm⟩ := k2; exact DataW.trod_lt m _ _ _ hm
  have s2 : ∀ n ∈ d2.weights Tryz.prog 3, n ≤ reachBytes := fun n hn => of_decide_eq_true (List.all_eq_true.1 hsz n (DataW.weights_mem_each (j := 2) rfl rfl n hn))
  obtain ⟨a2, rfl⟩ := okWide_int Tryz.underlying3 (hval 2 3 v2 rfl rfl)
  obtain ⟨y2, hy2⟩ : ∃ y, eInt W (LT W.heap.size) (fun j => [Value.int .i64 a2][j]?) y := by obtain ⟨fuel, hf⟩ := h2; exact (opens_int Tryz.underlying3 _ _ _ _ _ _ hf s2).2
  have w2 : wfI a2 := by obtain ⟨e, hw⟩ := hy2; simp at e; rw [e]; exact hw
  have k3 := h3
  have lt3 : ∀ x ∈ p3, x.block < W.heap.size := by obtain ⟨m, hm⟩ := k3; exact DataW.trod_lt m _ _ _ hm
  have s3 : ∀ n ∈ d3.weights Tryz.prog 24, n ≤ reachBytes := fun n hn => of_decide_eq_true (List.all_eq_true.1 hsz n (DataW.weights_mem_each (j := 3) rfl rfl n hn))
  obtain ⟨m3, A3, n3, c3, B3, f3, g3, rfl, by3, bz3⟩ := openDisk (hval 3 24 v3 rfl rfl) h3 s3
  clear hA0 hval0
  refine (diskSays_any W hvars m0 A0 n0 c0 B0 f0 g0 by0 bz0 m1 A1 n1 c1 B1 f1 g1 wf1 by1 bz1 a2 w2 m3 A3 n3 c3 B3 f3 g3 by3 bz3).mono fun e W' ⟨he, bel⟩ => ?_
  subst he
  exact ⟨_, rfl, _, _, _, [], _, [], hW', trodAll_mk1 (shut_bool Tryz.underlying4 _), (trodAll_cons_mk (Below.trod laidOut (by kernel_rfl) (of_decide_eq_true (by kernel_rfl)) k0 bel lt0) (trodAll_cons_mk (Below.trod laidOut (by kernel_rfl) (of_decide_eq_true (by kernel_rfl)) k1 bel lt1) (trodAll_cons_mk (Below.trod laidOut (by kernel_rfl) (of_decide_eq_true (by kernel_rfl)) k2 bel lt2) (trodAll_cons_mk (Below.trod laidOut (by kernel_rfl) (of_decide_eq_true (by kernel_rfl)) k3 bel lt3) trodAll_mk0)))), rfl, bel.frame _, fun h => by cases h⟩

theorem said : Rows.DiskSaysSaid :=
  OpenClaim.holds_of_cond 3 Tryz.f3 rfl rfl rfl rfl rfl rfl rfl ⟨rfl, rfl, rfl, rfl, rfl⟩ rfl rfl rfl rfl rfl (by kernel_rfl) Tryz.func3 (by kernel_rfl)
    (of_decide_eq_true (by kernel_rfl)) (by unfold Func.isWrapper; first | (rw [if_pos (by decide +kernel)]; kernel_rfl) | (rw [if_neg (by decide +kernel)]; exact ⟨rfl, rfl⟩))
    (fun os started H enc _ F => by rw [OpenClaim.pre_eq_preRow]; exact lifted os started H enc F)
theorem plain (f : FuncId) (fn : Func) (hf : Tryz.pinned.checked.prog.funcNamed "bottlepost/bottlepostlaw.DiskSays" = some f) (hfn : Tryz.pinned.checked.prog.funcs[f]? = some fn) :
    true = Tryz.pinned.checked.prog.looks [] ∧ ∀ (j : Nat) t, fn.params[j]? = some t → Tryz.pinned.checked.prog.wantsStandIn t = false := by
  obtain rfl : f = 3 := Option.some.inj ((show Tryz.prog.funcNamed "bottlepost/bottlepostlaw.DiskSays" = some 3 by kernel_rfl).symm.trans hf) |>.symm
  obtain rfl : fn = Tryz.f3 := (Option.some.inj (Tryz.func3.symm.trans hfn)).symm
  refine ⟨by kernel_rfl, fun j t ht => ?_⟩
  have hall : (Tryz.f3.params.toList.all fun t => !Tryz.prog.wantsStandIn t) = true := by kernel_rfl
  have hm : t ∈ Tryz.f3.params.toList := by simpa using Array.mem_of_getElem? ht
  have h1 := List.all_eq_true.1 hall t hm
  have h2 : Tryz.prog.wantsStandIn t = false := by simpa using h1
  exact h2
/-- The card: the law answers true for every input. -/
theorem proved : Rows.DiskSaysCardSaid :=
  Claim7.holds_tied_plain_at .later [] _ _ _ _ said (fun _ h => by cases h) (by kernel_rfl) (fun _ h => by cases h) diskSays_row_tie rfl ⟨rfl, rfl⟩ (by kernel_rfl) rfl plain (by kernel_rfl)
#print axioms proved
end Go.Proofs.YtbincgbgeccccaaGreatDoor.diskSaysLaw
