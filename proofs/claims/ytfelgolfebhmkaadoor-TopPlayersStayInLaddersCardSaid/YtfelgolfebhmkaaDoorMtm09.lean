/- The names and the rungs that the law makes; strconv.Itoa at this program. Conditions as stated. -/
import Derived.Test.YtfelgolfebhmkaaDoorMtm06
import Derived.Test.YtfelgolfebhmkaaDoorMtm08
import Derived.Lib.AppendIntMem
namespace Go.Proofs.YtfelgolfebhmkaaDoor
open Go.RowKit
abbrev TabW (w : World) : Prop := Lib.TabIs Tryd.prog w "internal/strconv.uint64pow10" .u64 Lib.pow10Tab
theorem TabW.ext {w w' : World} (h : TabW w) (he : Ext w w') : TabW w' := Lib.tabBelow_of_tabIs h w' he
theorem itoa_any {n : Int} {w : World} (h0 : -9223372036854775808 ≤ n) (h1 : n ≤ 9223372036854775807) (ht : TabW w) :
    Calls Tryd.prog 7 #[.int .i64 n] w fun e w' => e = .returned (.string ⟨(Lib.itoa n).toArray⟩) ∧ Ext w w' :=
  (show Calls Tryd.prog 7 #[.int .i64 n] w _ from Go.Proofs.Any.strconv_Itoa itoLays n h0 h1 w ht).mono fun e w' hh => by
    obtain ⟨he, k, os, rfl⟩ := hh
    exact ⟨he, Lib.below_grow _ _ (Nat.le_refl _) _ _⟩
def nmK (k : Nat) : List UInt8 := 114 :: Lib.itoa (100 + (k : Int))
theorem nm_ok : ∀ k, k < 20 → nameB ⟨(nmK k).toArray⟩ = true ∧ (nmK k).length ≤ 40 := by decide +kernel
theorem nm_less : ∀ k, k < 19 → Op.bytesLess (nmK (k + 1)) (nmK k) = false := by decide +kernel
theorem nm_apart : ∀ k, k < 20 → ∀ j, j < k → nmK j ≠ nmK k := by decide +kernel
def rgK (R Q : List Int) (k : Nat) : Rg := ⟨nmK k, R.getD k 0, 1, Q.getD k 0⟩
def rgL (R Q : List Int) (n : Nat) : List Rg := (List.range n).map (rgK R Q)
theorem rgL_len (R Q : List Int) (n : Nat) : (rgL R Q n).length = n := by simp [rgL]
theorem rgL_succ (R Q : List Int) (n : Nat) : rgL R Q (n + 1) = rgL R Q n ++ [rgK R Q n] := by simp [rgL, List.range_succ]
theorem rgL_get {R Q : List Int} {n k : Nat} (h : k < n) : (rgL R Q n).getD k default = rgK R Q k := by simp [rgL, List.getD, h]
theorem rgL_rate {R Q : List Int} {n : Nat} (h : R.length = n) : (rgL R Q n).map (·.rate) = R := by
  apply List.ext_getElem (by rw [List.length_map, rgL_len, h])
  intro i h1 h2
  simp [rgL, rgK, List.getD, h2]
theorem rgL_qual {R Q : List Int} {n : Nat} (h : Q.length = n) : (rgL R Q n).map (·.qual) = Q := by
  apply List.ext_getElem (by rw [List.length_map, rgL_len, h])
  intro i h1 h2
  simp [rgL, rgK, List.getD, h2]
theorem rgL_ok {R Q : List Int} {n : Nat} (hn : n ≤ 20) (hr : ∀ k, k < n → 1 ≤ R.getD k 0 ∧ R.getD k 0 ≤ 1000000000) (hq : ∀ k, k < n → 0 ≤ Q.getD k 0 ∧ Q.getD k 0 ≤ 1000000) (hu : ∀ k, k + 1 < n → R.getD k 0 ≤ R.getD (k + 1) 0) : RgOk (rgL R Q n) n := by
  refine ⟨by omega, fun k hk => ?_, fun k hk => ?_, fun k hk => ?_, fun k hk => ?_, fun k hk => ?_, fun k hk => ?_, fun k j hk hj => ?_⟩
  · rw [rgL_get hk]; exact nm_ok k (by omega)
  · rw [rgL_get hk]; exact hr k hk
  · rw [rgL_get hk]; rfl
  · rw [rgL_get hk]; exact hq k hk
  · rw [rgL_get (by omega), rgL_get hk]; exact hu k hk
  · rw [rgL_get hk, rgL_get (by omega)]; exact nm_less k (by omega)
  · rw [rgL_get (by omega), rgL_get hk]; exact nm_apart k (by omega) j hj
end Go.Proofs.YtfelgolfebhmkaaDoor
