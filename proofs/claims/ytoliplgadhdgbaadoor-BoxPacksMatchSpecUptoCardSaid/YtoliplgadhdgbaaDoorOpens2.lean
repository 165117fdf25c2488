/- Arguments that are slices of one-cell elements (strings, slices), read as lists. Conditions as stated. -/
import Derived.Test.YtoliplgadhdgbaaDoorOpens
import Derived.Test.YtoliplgadhdgbaaDoorRows2
namespace Go.Proofs.YtoliplgadhdgbaaDoor
open Go.ChangeShapes Go.WideShapes Go.ChangeAt Go.RowKit Go.Joins Go.Deep

section
variable {H : Type} {enc : TypeId × Value → H} {P : Program}
theorem open_onesQ {α : Type} {en : α → List Value} {good : α → Prop} {t e : TypeId} (hts : P.underlying t = some (.slice e)) (hC : P.cellsOf e = 1) {W : World}
    (dec : ∀ (v : Value) (n : Nat) (y : DataW H × List MemPlace), DataW.trod enc P W 0 (fun _ => true) true n e [v] = some y → ∃ x : α, good x ∧ en x = [v])
    {A : Option Addr} {n c fuel : Nat} {d : DataW H} {p : List MemPlace} (hf : DataW.trod enc P W 0 (fun _ => true) true fuel t [.slice A n c] = some (d, p)) :
    ∃ l, At W 1 en A n c l ∧ (∀ x ∈ l, good x) ∧ Takes d c := by
  rcases open_slice hts hf with ⟨hcs, hx⟩ | ⟨a, len, cap, m, k, D, Pl, hcs, _, hl, hm, hmm, hx, hi⟩
  · simp at hcs
    obtain ⟨rfl, rfl, rfl⟩ := hcs
    simp only [Prod.mk.injEq] at hx
    exact ⟨[], At.nil _ _ _, fun x hx => by simp at hx, .inl ⟨hx.1, rfl⟩⟩
  · simp at hcs
    obtain ⟨rfl, rfl, rfl⟩ := hcs
    simp only [Prod.mk.injEq] at hx
    simp only [if_true] at hmm
    subst hmm
    have hT : Takes d m := .inr ⟨_, _, hx.1, by simp; omega⟩
    rcases Nat.eq_zero_or_pos m with h0 | h0
    · subst h0
      obtain rfl : n = 0 := by omega
      exact ⟨[], ⟨rfl, Nat.le_refl _, hm, fun h => (by cases h), fun k x hx => by simp at hx⟩, fun x hx => by simp at hx, hT⟩
    · have hsz0 : ∀ i, i < m → ∃ u, W.cell? ((a.add (i * 1)).add 0) = some u ∧ ∃ x, good x ∧ en x = [u] := by
        intro i him
        obtain ⟨cs', hc, ht'⟩ := hi i him
        rw [hC] at hc
        obtain ⟨_, hcl, hat⟩ := World.cells?_some hc
        match cs', hcl with
        | [u], _ => exact ⟨u, by have := hat 0 (by omega); simpa using this, dec u _ _ ht'⟩
      obtain ⟨b, off, spot⟩ := a
      have hs : spot = none := by
        obtain ⟨u, h1, _⟩ := hsz0 0 h0
        have h4 : (((⟨b, off, spot⟩ : Addr).add (0 * 1)).add 0) = ⟨b, off, spot⟩ := by rw [Nat.zero_mul]; unfold Addr.add; rfl
        rw [h4] at h1
        exact cell_spot h1
      subst hs
      obtain ⟨l, h1, h2⟩ := At.of_key (w := W) (sz := 1) (enc := en) (good := good) (b := b) (off := off) hl hm (fun i hin => by
        obtain ⟨u, g1, x, hx, he⟩ := hsz0 i (by omega)
        refine ⟨x, hx, fun j v hu => ?_⟩
        rw [he] at hu
        match j, hu with
        | 0, hu =>
          simp at hu; subst hu
          rw [add_of_add, Addr.add_lit] at g1
          rw [show off + i * 1 + 0 = off + (i * 1 + 0) by omega]
          exact g1
        | j + 1, hu => simp at hu)
      exact ⟨l, h1, h2, hT⟩
theorem fldIntsP {t e : TypeId} (hts : P.underlying t = some (.slice e)) (hte : P.underlying e = some (.int .i64)) (htc : P.cellsOf e = 1) {W : World} {n : Nat} {v : Value} {y : DataW H × List MemPlace}
    (h : DataW.trod enc P W 0 (fun _ => true) true n t [v] = some y) : ∃ A n c, ∃ l : List Int, v = .slice A n c ∧ At W 1 e64 A n c l ∧ (∀ x ∈ l, -9223372036854775808 ≤ x ∧ x ≤ 9223372036854775807) ∧ Takes y.1 c := by
  have hv : ∃ A n c, v = .slice A n c := by
    rcases open_ints hts hte htc h with ⟨hcs, _⟩ | ⟨a, len, cap, zs, hcs, _⟩
    · injection hcs with hcs _; exact ⟨_, _, _, hcs⟩
    · injection hcs with hcs _; exact ⟨_, _, _, hcs⟩
  obtain ⟨A, k, c, rfl⟩ := hv
  obtain ⟨d, p⟩ := y
  obtain ⟨l, h1, h2, h3⟩ := open_intsQ hts hte htc h
  exact ⟨A, k, c, l, rfl, h1, h2, h3⟩
theorem fldSlice {t e : TypeId} (hts : P.underlying t = some (.slice e)) {W : World} {n : Nat} {v : Value} {y : DataW H × List MemPlace}
    (h : DataW.trod enc P W 0 (fun _ => true) true n t [v] = some y) : ∃ A n c, v = .slice A n c := by
  rcases open_slice hts h with ⟨hcs, _⟩ | ⟨a, len, cap, m, k, D, Pl, hcs, _⟩
  · injection hcs with hcs _; exact ⟨_, _, _, hcs⟩
  · injection hcs with hcs _; exact ⟨_, _, _, hcs⟩
theorem At.map1 {α β : Type} {w : World} {sz : Nat} {en : α → List Value} {em : β → List Value} {A : Option Addr} {n c : Nat} {l : List α} (f : α → β) (he : ∀ x, en x = em (f x)) (h : At w sz en A n c l) : At w sz em A n c (l.map f) :=
  ⟨by have := h.len; simpa using this, h.le, h.max, h.none_, fun k x hx => by
    rw [List.getElem?_map] at hx
    cases hl : l[k]? with
    | none => rw [hl] at hx; cases hx
    | some y =>
      rw [hl] at hx
      simp at hx; subst hx
      obtain ⟨b, off, e, hc⟩ := h.cells k y hl
      exact ⟨b, off, e, fun j u hu => hc j u (by rw [he]; exact hu)⟩⟩
theorem fldRowsP {t e q : TypeId} (hts : P.underlying t = some (.slice e)) (hC : P.cellsOf e = 1) (hte : P.underlying e = some (.slice q)) (htq : P.underlying q = some (.int .i64)) (hq : P.cellsOf q = 1) {W : World} {n : Nat} {v : Value} {y : DataW H × List MemPlace}
    (h : DataW.trod enc P W 0 (fun _ => true) true n t [v] = some y) : ∃ A n c, ∃ S : List (List Int), v = .slice A n c ∧ Rws W A n c S ∧ ∀ l ∈ S, ∀ x ∈ l, -9223372036854775808 ≤ x ∧ x ≤ 9223372036854775807 := by
  obtain ⟨A, k, c, rfl⟩ := fldSlice hts h
  obtain ⟨d, p⟩ := y
  obtain ⟨l, h1, h2, _⟩ := open_onesQ (α := (Option Addr × Nat × Nat) × List Int) (en := fun x => eH x.1) (good := fun x => At W 1 e64 x.1.1 x.1.2.1 x.1.2.2 x.2 ∧ ∀ z ∈ x.2, -9223372036854775808 ≤ z ∧ z ≤ 9223372036854775807) hts hC
    (fun v n y hy => by
      obtain ⟨A, n, c, l, rfl, g1, g2, _⟩ := fldIntsP hte htq hq hy
      exact ⟨((A, n, c), l), ⟨g1, g2⟩, rfl⟩) h
  have h2 : ∀ x ∈ l, At W 1 e64 x.1.1 x.1.2.1 x.1.2.2 x.2 ∧ ∀ z ∈ x.2, -9223372036854775808 ≤ z ∧ z ≤ 9223372036854775807 := h2
  have hl := h1.len
  have hm : At W 1 eH A k c (l.map Prod.fst) := At.map1 (en := fun x => eH x.1) Prod.fst (fun _ => rfl) h1
  refine ⟨A, k, c, l.map (·.2), rfl, ⟨by simpa using hl, l.map Prod.fst, hm, fun i hi => ?_⟩, fun r hr => ?_⟩
  · have hil : i < l.length := by omega
    have hx := (h2 (l[i]'hil) (List.getElem_mem hil)).1
    simp only [List.getD, List.getElem?_map, List.getElem?_eq_getElem hil, Option.map_some, Option.getD_some]
    exact hx
  · obtain ⟨x, hx, rfl⟩ := List.mem_map.1 hr
    exact (h2 x hx).2
end
end Go.Proofs.YtoliplgadhdgbaaDoor
