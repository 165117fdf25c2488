/- Arguments that are slices of elements of whatever type, read as lists. Conditions as stated. -/
import Derived.Test.YtoliplgadhdgbaaDoorOpens
namespace Go.Proofs.YtoliplgadhdgbaaDoor
open Go.ChangeShapes Go.WideShapes Go.ChangeAt Go.RowKit Go.Joins Go.Deep

section
variable {H : Type} {enc : TypeId × Value → H} {P : Program}
/-- An argument that is a slice: dec reads an element of sz cells. -/
theorem open_elemsQ {α : Type} {en : α → List Value} {good : α → Prop} {sz : Nat} {t e : TypeId} (hts : P.underlying t = some (.slice e)) (hC : P.cellsOf e = sz) (hz : 0 < sz) {W : World}
    (dec : ∀ (cs : List Value) (n : Nat) (y : DataW H × List MemPlace), cs.length = sz → DataW.trod enc P W 0 (fun _ => true) true n e cs = some y → ∃ x : α, good x ∧ en x = cs)
    {A : Option Addr} {n c fuel : Nat} {d : DataW H} {p : List MemPlace} (hf : DataW.trod enc P W 0 (fun _ => true) true fuel t [.slice A n c] = some (d, p)) :
    ∃ l, At W sz en A n c l ∧ (∀ x ∈ l, good x) ∧ Takes d c := by
  rcases open_slice hts hf with ⟨hcs, hx⟩ | ⟨a, len, cap, m, k, D, Pl, hcs, _, hl, hm, hmm, hx, hi⟩
  · simp at hcs
    obtain ⟨rfl, rfl, rfl⟩ := hcs
    simp only [Prod.mk.injEq] at hx
    exact ⟨[], At.nil _ _ _, fun x hx => by simp at hx, .inl ⟨hx.1, rfl⟩⟩
  · simp at hcs
    obtain ⟨rfl, rfl, rfl⟩ := hcs
    simp only [Prod.mk.injEq] at hx
    simp only [if_true] at hmm
    subst hmm
    have hT : Takes d m := .inr ⟨_, _, hx.1, by simp; omega⟩
    rcases Nat.eq_zero_or_pos m with h0 | h0
    · subst h0
      obtain rfl : n = 0 := by omega
      exact ⟨[], ⟨rfl, Nat.le_refl _, hm, fun h => (by cases h), fun k x hx => by simp at hx⟩, fun x hx => by simp at hx, hT⟩
    · have hsz0 : ∀ i, i < m → ∃ cs', (∀ j, j < sz → W.cell? ((a.add (i * sz)).add j) = cs'[j]?) ∧ cs'.length = sz ∧ ∃ x, good x ∧ en x = cs' := by
        intro i him
        obtain ⟨cs', hc, ht'⟩ := hi i him
        rw [hC] at hc
        obtain ⟨_, hcl, hat⟩ := World.cells?_some hc
        exact ⟨cs', hat, hcl, dec cs' _ _ hcl ht'⟩
      obtain ⟨b, off, spot⟩ := a
      have hs : spot = none := by
        obtain ⟨cs', h1, h2, _⟩ := hsz0 0 h0
        have h3 := h1 0 hz
        rw [List.getElem?_eq_getElem (by omega)] at h3
        have h4 : (((⟨b, off, spot⟩ : Addr).add (0 * sz)).add 0) = ⟨b, off, spot⟩ := by rw [Nat.zero_mul]; unfold Addr.add; rfl
        rw [h4] at h3
        exact cell_spot h3
      subst hs
      obtain ⟨l, h1, h2⟩ := At.of_key (w := W) (sz := sz) (enc := en) (good := good) (b := b) (off := off) hl hm (fun i hin => by
        obtain ⟨cs', g1, g2, x, hx, he⟩ := hsz0 i (by omega)
        refine ⟨x, hx, fun j u hu => ?_⟩
        have hj : j < sz := by
          have := (List.getElem?_eq_some_iff.1 hu).1
          rw [he] at this; omega
        have := g1 j hj
        rw [add_of_add, Addr.add_lit] at this
        rw [show off + i * sz + j = off + (i * sz + j) by omega, this, ← he, hu])
      exact ⟨l, h1, h2, hT⟩
theorem open_elemsP {α : Type} {en : α → List Value} {good : α → Prop} {sz : Nat} {t e : TypeId} (hts : P.underlying t = some (.slice e)) (hC : P.cellsOf e = sz) (hz : 0 < sz) {W : World}
    (dec : ∀ (cs : List Value) (n : Nat) (y : DataW H × List MemPlace), cs.length = sz → DataW.trod enc P W 0 (fun _ => true) true n e cs = some y → ∃ x : α, good x ∧ en x = cs)
    {base : Nat} {v : Value} {d : DataW H} {p : List MemPlace} (hv : Value.okWide P W .any base t v) (h : DataW.Trod enc P W 0 (fun _ => true) true t v d p) :
    ∃ A n c l, v = .slice A n c ∧ At W sz en A n c l ∧ (∀ x ∈ l, good x) ∧ Takes d c := by
  obtain ⟨A, n, c, rfl⟩ := okWide_slice hts hv
  obtain ⟨fuel, hf⟩ := h
  obtain ⟨l, h1, h2, h3⟩ := open_elemsQ hts hC hz dec (by simpa [Value.cells] using hf)
  exact ⟨A, n, c, l, rfl, h1, h2, h3⟩
/-- A field that is a slice of structs whose fields have a cell each. -/
theorem fldElems {α : Type} {en : α → List Value} {good : α → Prop} {sz : Nat} {t e : TypeId} (hts : P.underlying t = some (.slice e)) (hC : P.cellsOf e = sz) (hz : 0 < sz) {W : World}
    (dec : ∀ (cs : List Value) (n : Nat) (y : DataW H × List MemPlace), cs.length = sz → DataW.trod enc P W 0 (fun _ => true) true n e cs = some y → ∃ x : α, good x ∧ en x = cs)
    {n : Nat} {v : Value} {y : DataW H × List MemPlace} (h : DataW.trod enc P W 0 (fun _ => true) true n t [v] = some y) : ∃ A n c l, v = .slice A n c ∧ At W sz en A n c l ∧ (∀ x ∈ l, good x) := by
  have hv : ∃ A n c, v = .slice A n c := by
    rcases open_slice hts h with ⟨hcs, _⟩ | ⟨a, len, cap, m, k, D, Pl, hcs, _⟩
    · injection hcs with hcs _; exact ⟨_, _, _, hcs⟩
    · injection hcs with hcs _; exact ⟨_, _, _, hcs⟩
  obtain ⟨A, k, c, rfl⟩ := hv
  obtain ⟨d, p⟩ := y
  obtain ⟨l, h1, h2, _⟩ := open_elemsQ hts hC hz dec h
  exact ⟨A, k, c, l, rfl, h1, h2⟩
/-- What a field of a struct is, in its cells. -/
theorem fldAt {W : World} {n c : Nat} {t : TypeId} {vs : List Value} {cs : List Value} {r : Option (DataW H × List MemPlace)} (hs : (cs.drop c).take (P.cellsOf t) = vs) {off : Nat} (ho : off = c) (h : DataW.trod enc P W 0 (fun _ => true) true n t ((cs.drop off).take (P.cellsOf t)) = r) :
    DataW.trod enc P W 0 (fun _ => true) true n t vs = r := by
  subst ho; rw [hs] at h; exact h
end
section
variable {H : Type} {enc : TypeId × Value → H} {P : Program} {w : World} {base : Nat} {spare : Nat → Bool} {held : Bool}
theorem trodAll5 {t t' t2 t3 t4 : TypeId} {args : Array Value} {ds : List (DataW H)} {ps : List MemPlace} (h : DataW.TrodAll enc P w base spare held [t, t', t2, t3, t4] args.toList ds ps) :
    ∃ v v' v2 v3 v4 d d' d2 d3 d4 p p' p2 p3 p4, args = #[v, v', v2, v3, v4] ∧ ds = [d, d', d2, d3, d4] ∧ ps = p ++ p' ++ p2 ++ p3 ++ p4 ∧ DataW.Trod enc P w base spare held t v d p ∧ DataW.Trod enc P w base spare held t' v' d' p' ∧ DataW.Trod enc P w base spare held t2 v2 d2 p2 ∧ DataW.Trod enc P w base spare held t3 v3 d3 p3 ∧ DataW.Trod enc P w base spare held t4 v4 d4 p4 := by
  obtain ⟨v, vs, d, ds', p, q, hargs, rfl, rfl, hd, hrest⟩ := trodAll_cons h
  obtain ⟨v', vs', d', ds1, p', q', rfl, rfl, rfl, hd', hrest'⟩ := trodAll_cons hrest
  obtain ⟨v2, vs2, d2, ds2, p2, q2, rfl, rfl, rfl, hd2, hrest2⟩ := trodAll_cons hrest'
  obtain ⟨v3, vs3, d3, ds3, p3, q3, rfl, rfl, rfl, hd3, hrest3⟩ := trodAll_cons hrest2
  obtain ⟨v4, vs4, d4, ds4, p4, q4, rfl, rfl, rfl, hd4, hrest4⟩ := trodAll_cons hrest3
  obtain ⟨rfl, rfl, rfl⟩ := trodAll_nil hrest4
  exact ⟨v, v', v2, v3, v4, d, d', d2, d3, d4, p, p', p2, p3, p4, by cases args; simp_all, rfl, by simp, hd, hd', hd2, hd3, hd4⟩
end
end Go.Proofs.YtoliplgadhdgbaaDoor
