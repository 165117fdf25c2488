/- Arguments that are slices of structs (fields of one cell each), read as lists of what the fields say; numbers in an argument. Conditions as stated. -/
import Derived.Test.YtfelgolfebhmkaaDoorMtm46
import Derived.Test.YtfelgolfebhmkaaDoorMtm01
import Derived.Lib.SmallJoins
import Derived.Deep.Slices
import Derived.Deep.Fields
namespace Go.Proofs.YtfelgolfebhmkaaDoor
open Go.ChangeShapes Go.WideShapes Go.ChangeAt Go.RowKit Go.Joins Go.Deep
theorem wf_i64 {x : Int} (h : (Lit.int .i64 x).wf = true) : -9223372036854775808 ≤ x ∧ x ≤ 9223372036854775807 := by
  simp [Lit.wf, IntKind.min, IntKind.max, IntKind.signed, IntKind.bits] at h
  omega
theorem At.of_key {α : Type} {w : World} {sz n c : Nat} {enc : α → List Value} {good : α → Prop} {b off : Nat} (hnc : n ≤ c) (hm : c ≤ maxLen)
    (key : ∀ i, i < n → ∃ x, good x ∧ ∀ (j : Nat) (u : Value), (enc x)[j]? = some u → w.cell? ⟨b, off + i * sz + j, none⟩ = some u) :
    ∃ l, At w sz enc (some ⟨b, off, none⟩) n c l ∧ ∀ x ∈ l, good x := by
  have h : ∀ m, m ≤ n → ∃ l : List α, l.length = m ∧ (∀ x ∈ l, good x) ∧ ∀ (k : Nat) (x : α), l[k]? = some x → ∀ (j : Nat) (u : Value), (enc x)[j]? = some u → w.cell? ⟨b, off + k * sz + j, none⟩ = some u := by
    intro m
    induction m with
    | zero => exact fun _ => ⟨[], rfl, fun x hx => by simp at hx, fun k x hx => by simp at hx⟩
    | succ m ih =>
      intro hmn
      obtain ⟨l, h1, h2, h3⟩ := ih (by omega)
      obtain ⟨x, hx, hc⟩ := key m (by omega)
      refine ⟨l ++ [x], by simp [h1], fun y hy => ?_, fun k y hy => ?_⟩
      · rcases List.mem_append.1 hy with h | h
        · exact h2 y h
        · simp at h; subst h; exact hx
      · by_cases hk : k < l.length
        · rw [List.getElem?_append_left hk] at hy
          exact h3 k y hy
        · have hlt : k < (l ++ [x]).length := (List.getElem?_eq_some_iff.1 hy).1
          simp at hlt
          obtain rfl : k = l.length := by omega
          simp at hy; subst hy
          rw [h1]; exact hc
  obtain ⟨l, h1, h2, h3⟩ := h n (Nat.le_refl _)
  exact ⟨l, ⟨h1, hnc, hm, fun h => (by cases h), fun k x hx => ⟨b, off, rfl, fun j u hu => h3 k x hx j u hu⟩⟩, h2⟩
section
variable {H : Type} {enc : TypeId × Value → H} {P : Program}
theorem fldInt {W : World} {t : TypeId} {n : Nat} {v : Value} {y : DataW H × List MemPlace} (ht : P.underlying t = some (.int .i64)) (h : DataW.trod enc P W 0 (fun _ => true) true n t [v] = some y) :
    ∃ x, v = .int .i64 x ∧ (-9223372036854775808 ≤ x ∧ x ≤ 9223372036854775807) := by
  obtain ⟨x, hv, _, hw⟩ := DataW.trod_int ht h
  injection hv with hv _
  exact ⟨x, hv, wf_i64 hw⟩
theorem open_intsQ {t e : TypeId} (hts : P.underlying t = some (.slice e)) (hte : P.underlying e = some (.int .i64)) (htc : P.cellsOf e = 1) {W : World} {A : Option Addr} {n c fuel : Nat} {d : DataW H} {p : List MemPlace}
    (hf : DataW.trod enc P W 0 (fun _ => true) true fuel t [.slice A n c] = some (d, p)) : ∃ l : List Int, At W 1 e64 A n c l ∧ (∀ x ∈ l, -9223372036854775808 ≤ x ∧ x ≤ 9223372036854775807) ∧ Takes d c := by
  rcases open_ints hts hte htc hf with ⟨hcs, hx⟩ | ⟨a, len, cap, zs, hcs, _, hl, hm, hz, hx, hcell, hwz⟩
  · simp at hcs
    obtain ⟨rfl, rfl, rfl⟩ := hcs
    simp only [Prod.mk.injEq] at hx
    exact ⟨[], At.nil _ _ _, fun x hx => by simp at hx, .inl ⟨hx.1, rfl⟩⟩
  · simp at hcs
    obtain ⟨rfl, rfl, rfl⟩ := hcs
    simp only [Prod.mk.injEq] at hx
    simp only [if_true] at hz
    refine ⟨zs.take n, ⟨by simp; omega, hl, hm, fun h => (by cases h), fun k x hxx => ?_⟩, fun x hx => wf_i64 (hwz x (List.mem_of_mem_take hx)), .inr ⟨_, _, hx.1, by simp [lits]; omega⟩⟩
    have hk : k < n := by
      have := (List.getElem?_eq_some_iff.1 hxx).1
      simp at this; omega
    have hc := hcell k (by omega)
    obtain ⟨b, off, spot⟩ := a
    have hs : spot = none := by
      have h3 : ((⟨b, off, spot⟩ : Addr).add 0) = ⟨b, off, spot⟩ := by unfold Addr.add; rfl
      have h4 := hcell 0 (by omega)
      rw [h3] at h4
      exact cell_spot h4
    subst hs
    refine ⟨b, off, rfl, fun j u hu => ?_⟩
    match j, hu with
    | j + 1, hu => simp at hu
    | 0, hu =>
      simp at hu; subst hu
      have hkz : k < zs.length := by omega
      have hx2 : x = zs[k] := by
        rw [List.getElem?_take_of_lt hk, List.getElem?_eq_getElem hkz] at hxx
        simpa using hxx.symm
      rw [Addr.add_lit] at hc
      rw [show off + k * 1 + 0 = off + k by omega, hc, hx2]
      simp [List.getD, List.getElem?_eq_getElem hkz]
end
end Go.Proofs.YtfelgolfebhmkaaDoor
