/- Strings in memory; the library's variables; numbers as texts and back; what is joined, split and cut: the shelf's contracts in this seat's words. No condition beyond what each says. -/
import Derived.Test.YtbincgbgeccccaaGreatDoorOpen
import Derived.Test.YtbincgbgeccccaaGreatDoorApp
import Derived.Test.YtbincgbgeccccaaGreatDoorTextP
import Derived.Test.YtbincgbgeccccaaGreatDoorShelfD
import Derived.Test.YtbincgbgeccccaaGreatDoorShelfW
import Derived.Lib.LaidTab
set_option linter.unusedSimpArgs false
set_option linter.unusedVariables false
set_option maxRecDepth 100000
namespace Go.Proofs.YtbincgbgeccccaaGreatDoor
open Go.RowKit
attribute [local irreducible] wpList

/-- A string, by its bytes. -/
abbrev sV (l : List UInt8) : Value := .string ⟨l.toArray⟩
theorem sV_data (l : List UInt8) : (⟨l.toArray⟩ : ByteArray).data.toList = l := rfl
theorem sV_size (l : List UInt8) : (⟨l.toArray⟩ : ByteArray).size = l.length := by simp [ByteArray.size]
theorem str_eta (s : ByteArray) : Value.string s = sV s.data.toList := by cases s; simp [sV]
def eStr : ERd (List UInt8) := fun _ _ f x => f 0 = some (sV x)
theorem sStr : Stable 1 eStr := ⟨fun _ h => h, fun _ h => h, fun hf h => hf _ _ (by omega) h⟩
theorem fStr : Full 1 eStr := fun h j hj => by
  obtain rfl : j = 0 := by omega
  exact ⟨_, h, rfl⟩
/-- The k-th string. -/
theorem Els.str {w : World} {S : Nat → Prop} {n k : Nat} {ad : Addr} {l : List (List UInt8)} (h : Els 1 eStr w S ad n l) (hk : k < n) : ∃ b, l[k]? = some b ∧ w.cell? (ad.add k) = some (sV b) := by
  obtain ⟨x, hx, hr⟩ := h.at_ hk
  exact ⟨x, hx, by simpa [eStr] using hr⟩
theorem Sl.litStrs {w : World} {b : Nat} {cs : Array Value} {t : TypeId} {fr : Nat × Nat} {S : Nat → Prop} {n : Nat} {xs : List (List UInt8)}
    (hb : w.heap[b]? = some (.cells cs t fr)) (hS : S b) (hn : xs.length = n) (hc : cs = (xs.map sV).toArray) : Sl 1 eStr w S (some ⟨b, 0, none⟩) n xs :=
  .lit hb hS hn fun i x hx => by subst hc; simp [eStr, hx]

theorem gPow : Tryz.prog.globalNamed "internal/strconv.uint64pow10" = some 1 := by kernel_rfl
theorem gSyn : Tryz.prog.globalNamed "strconv.ErrSyntax" = some 2 := by kernel_rfl
theorem gRan : Tryz.prog.globalNamed "strconv.ErrRange" = some 3 := by kernel_rfl
theorem var_go {w w' : World} {n : String} {g : Nat} {cs : Array Value} (hg : Tryz.prog.globalNamed n = some g) (h : w.var? Tryz.prog n = some cs) (k : Fr w w') : w'.var? Tryz.prog n = some cs := by
  unfold World.var? at h ⊢
  rw [hg] at h ⊢
  simp only [Option.bind_eq_bind, Option.bind_some] at h ⊢
  cases ho : w.heap[g]? with
  | none => rw [ho] at h; simp at h
  | some o => rw [ho] at h; rw [blk_go ho k]; exact h
/-- The library's variables are laid. -/
structure Vars (w : World) : Prop where
  pow : Lib.TabIs Tryz.prog w "internal/strconv.uint64pow10" .u64 Lib.pow10Tab
  syn : ∃ tp p, w.var? Tryz.prog "strconv.ErrSyntax" = some #[.iface tp p]
  ran : ∃ tp p, w.var? Tryz.prog "strconv.ErrRange" = some #[.iface tp p]
  mx : ∃ m, w.cell? ⟨0, 0, none⟩ = some (.int .i64 m)
theorem Vars.go {w w' : World} (h : Vars w) (k : Fr w w') : Vars w' := by
  obtain ⟨h1, ⟨t2, p2, h2⟩, ⟨t3, p3, h3⟩, ⟨m, h4⟩⟩ := h
  exact ⟨var_go gPow h1 k, ⟨t2, p2, var_go gSyn h2 k⟩, ⟨t3, p3, var_go gRan h3 k⟩, ⟨m, (k.cell (World.block_lt_of_cell? w _ h4)).trans h4⟩⟩
theorem grow_fr (w : World) (os : Array Obj) : Fr w (Sort.grow w os) :=
  ⟨rfl, rfl, rfl, by simp [Sort.grow], fun k hk => by simp [Sort.grow, Array.getElem?_append_left hk]⟩

theorem itoa_any (w : World) (v : Vars w) (n : Int) (h : wfI n) : Calls Tryz.prog 28 #[.int .i64 n] w fun e w' => e = .returned (sV (Lib.itoa n)) ∧ Fr w w' := by
  refine (Tryz.strconv_Itoa n h.bd.1 h.bd.2 w v.pow).mono ?_
  rintro e w' ⟨rfl, k, os, rfl⟩
  exact ⟨rfl, (frDrewN w k).trans (grow_fr _ os)⟩
/-- A word read as a number: the number, and no error; or an error. -/
theorem atoi_any (w : World) (v : Vars w) (l : List UInt8) (hl : l.length ≤ 1000000) : Calls Tryz.prog 52 #[sV l] w fun e w' => Fr w w' ∧ match Lib.atoiAll l with
    | .ok n => e = .returned (.tuple #[.int .i64 n, .nilIface])
    | _ => ∃ n t p, e = .returned (.tuple #[.int .i64 n, .iface t p]) := by
  have hs := sV_size l
  cases ha : Lib.atoiAll l
  case ok n =>
    refine (Tryz.strconv_Atoi_ok ⟨l.toArray⟩ (by omega) n (by rw [sV_data]; exact ha) w).mono ?_
    rintro e w' ⟨rfl, h⟩
    refine ⟨?_, rfl⟩
    rcases h with rfl | ⟨t, rfl⟩
    · exact Below.refl _ _
    · unfold Lib.bytesWorld
      refine Lib.below_freeze (B := w.heap.size) ?_ ?_ _
      · (repeat' (first | exact Below.refl _ _ | refine below_drewN ?_ _ | refine Below.drew ?_ | refine frA ?_ _))
      · exact Nat.le_refl _
  case range =>
    obtain ⟨tp, p, hv⟩ := v.ran
    refine (Tryz.strconv_Atoi_range_var ⟨l.toArray⟩ (by omega) (by rw [sV_data]; exact ha) tp p w hv).mono ?_
    rintro e w' ⟨N, rfl, _, _, hb⟩
    exact ⟨hb, _, _, _, rfl⟩
  · obtain ⟨tp, p, hv⟩ := v.syn
    refine (Tryz.strconv_Atoi_syntax_var ⟨l.toArray⟩ (by omega) (by rw [sV_data]; exact ha) tp p w hv).mono ?_
    rintro e w' ⟨N, rfl, _, _, hb⟩
    exact ⟨hb, _, _, _, rfl⟩
/-- Words joined by a blank. -/
theorem join_any (w : World) (A : Option Addr) (n c : Nat) (ws : List (List UInt8)) (h : Sl 1 eStr w (LT w.heap.size) A n ws) (hc : n ≤ c) (h0 : 0 < n) (hn : n ≤ 1000000) (ho : ∀ ad, A = some ad → ad.spot = none) (hlen : (Lib.join ws [32]).length ≤ 20000000) :
    Calls Tryz.prog 30 #[.slice A n c, sV [32]] w fun e w' => e = .returned (sV (Lib.join ws [32])) ∧ Fr w w' := by
  obtain ⟨ad, rfl, hl, hS, hr⟩ := h.els h0
  obtain ⟨b, o, sp⟩ := ad
  obtain rfl : sp = none := ho _ rfl
  have e1 : (ws.map fun l => (⟨l.toArray⟩ : ByteArray)).map (·.data.toList) = ws := by rw [List.map_map]; exact (List.map_congr_left fun l _ => rfl).trans (List.map_id ws)
  have hj := Tryz.strings_Join b o c (ws.map fun l => (⟨l.toArray⟩ : ByteArray)) ⟨#[32]⟩ w (fun j x hx => ?_) hS (by rw [List.length_map]; omega) (by rw [List.length_map]; omega) (by rw [e1]; show (Lib.join ws [32]).length ≤ _; omega)
  · rw [e1, List.length_map, hl] at hj
    exact hj
  · rw [List.getElem?_map] at hx
    cases hy : ws[j]? with
    | none => rw [hy] at hx; cases hx
    | some y =>
      rw [hy] at hx
      obtain rfl : (⟨y.toArray⟩ : ByteArray) = x := by simpa using hx
      have := hr j y hy
      simp only [eStr, Nat.mul_one, Nat.add_zero] at this
      rw [← this]
      unfold Addr.add
      split <;> simp_all
theorem Own.spot {α : Type} {size : Nat} {r : ERd α} {w : World} {base : Nat} {e : TypeId} {v : Value} {xs : List α} (h : Own size r w base e v xs) {A : Option Addr} {n c : Nat} (hv : v = .slice A n c) : ∀ ad, A = some ad → ad.spot = none := by
  obtain ⟨cs, ho, _⟩ := h
  intro ad ha
  rcases ho.2 with ⟨h1, _⟩ | ⟨g, cap, cur, h1, _⟩
  · rw [hv] at h1
    injection h1 with h1
    rw [h1] at ha; cases ha
  · rw [hv] at h1
    injection h1 with h1
    rw [h1] at ha
    injection ha with ha
    rw [← ha]
theorem str_cons (x : UInt8) (l : List UInt8) : (⟨#[x]⟩ ++ ⟨l.toArray⟩ : ByteArray) = ⟨(x :: l).toArray⟩ := by
  apply ByteArray.ext
  simp
theorem splitB_pieces (c : UInt8) (l : List UInt8) : (Lib.splitB ⟨#[c]⟩ 0 (Lib.countB ⟨l.toArray⟩ ⟨#[c]⟩) ⟨l.toArray⟩).map (·.data.toList) = pieces c l := by
  rw [Lib.splitB_data]
  exact split_eq c l.length l (Nat.le_refl _)
theorem map_str (L : List ByteArray) : L.map Value.string = (L.map (·.data.toList)).map sV := by
  rw [List.map_map]
  exact List.map_congr_left fun s _ => str_eta s
/-- A text's pieces between a byte. -/
theorem split_any (w : World) (v : Vars w) (c : UInt8) (l : List UInt8) (hl : l.length ≤ 1000000) :
    Calls Tryz.prog 51 #[sV l, sV [c]] w fun e w' => e = .returned (.slice (some ⟨w.heap.size, 0, none⟩) (pieces c l).length (pieces c l).length) ∧ w' = w.alloc (.cells ((pieces c l).map sV).toArray 9) := by
  obtain ⟨m, hm⟩ := v.mx
  have hs := sV_size l
  have h := Tryz.strings_Split ⟨l.toArray⟩ ⟨#[c]⟩ m w (by omega) hm (Nat.le_refl 1)
  have h1 := Lib.splitB_all ⟨#[c]⟩ (Nat.le_refl 1) 0 _ ⟨l.toArray⟩ rfl
  have h2 := splitB_pieces c l
  have h3 : Lib.countB ⟨l.toArray⟩ ⟨#[c]⟩ + 1 = (pieces c l).length := by rw [← h2, List.length_map, h1]
  rw [h3, map_str, h2] at h
  exact h
end Go.Proofs.YtbincgbgeccccaaGreatDoor
