/- Arguments that are slices of structs (fields of one cell each), read as lists of what the fields say; numbers in an argument. Conditions as stated. -/
import Derived.Test.YtoliplgadhdgbaaDoorLawG
import Derived.Test.YtoliplgadhdgbaaDoorPairs
import Derived.Lib.SmallJoins
import Derived.Deep.Slices
import Derived.Deep.Fields
namespace Go.Proofs.YtoliplgadhdgbaaDoor
open Go.ChangeShapes Go.WideShapes Go.ChangeAt Go.RowKit Go.Joins Go.Deep

theorem wf_i64 {x : Int} (h : (Lit.int .i64 x).wf = true) : -9223372036854775808 ≤ x ∧ x ≤ 9223372036854775807 := by
  simp [Lit.wf, IntKind.min, IntKind.max, IntKind.signed, IntKind.bits] at h
  omega
/-- A list out of its elements' cells. -/
theorem At.of_key {α : Type} {w : World} {sz n c : Nat} {enc : α → List Value} {good : α → Prop} {b off : Nat} (hnc : n ≤ c) (hm : c ≤ maxLen)
    (key : ∀ i, i < n → ∃ x, good x ∧ ∀ (j : Nat) (u : Value), (enc x)[j]? = some u → w.cell? ⟨b, off + i * sz + j, none⟩ = some u) :
    ∃ l, At w sz enc (some ⟨b, off, none⟩) n c l ∧ ∀ x ∈ l, good x := by
  have h : ∀ m, m ≤ n → ∃ l : List α, l.length = m ∧ (∀ x ∈ l, good x) ∧ ∀ (k : Nat) (x : α), l[k]? = some x → ∀ (j : Nat) (u : Value), (enc x)[j]? = some u → w.cell? ⟨b, off + k * sz + j, none⟩ = some u := by
    intro m
    induction m with
    | zero => exact fun _ => ⟨[], rfl, fun x hx => by simp at hx, fun k x hx => by simp at hx⟩
    | succ m ih =>
      intro hmn
      obtain ⟨l, h1, h2, h3⟩ := ih (by omega)
      obtain ⟨x, hx, hc⟩ := key m (by omega)
      refine ⟨l ++ [x], by simp [h1], fun y hy => ?_, fun k y hy => ?_⟩
      · rcases List.mem_append.1 hy with h | h
        · exact h2 y h
        · simp at h; subst h; exact hx
      · by_cases hk : k < l.length
        · rw [List.getElem?_append_left hk] at hy
          exact h3 k y hy
        · have hlt : k < (l ++ [x]).length := (List.getElem?_eq_some_iff.1 hy).1
          simp at hlt
          obtain rfl : k = l.length := by omega
          simp at hy; subst hy
          rw [h1]; exact hc
  obtain ⟨l, h1, h2, h3⟩ := h n (Nat.le_refl _)
  exact ⟨l, ⟨h1, hnc, hm, fun h => (by cases h), fun k x hx => ⟨b, off, rfl, fun j u hu => h3 k x hx j u hu⟩⟩, h2⟩
section
variable {H : Type} {enc : TypeId × Value → H} {P : Program}
/-- An argument that is a slice of structs: dec reads one. -/
theorem open_structsQ {α : Type} {en : α → List Value} {good : α → Prop} {sz : Nat} {t e : TypeId} {fs : Array Field} (hts : P.underlying t = some (.slice e)) (hte : P.underlying e = some (.struct fs))
    (hone : oneCellFields P fs = true) (hC : P.cellsOf e = sz) (hfs : fs.size = sz) (hz : 0 < sz) {W : World}
    (dec : ∀ (cs : List Value) (n : Nat), cs.length = sz → (∀ (j : Nat) (f : Field), fs[j]? = some f → ∃ v y, cs[j]? = some v ∧ DataW.trod enc P W 0 (fun _ => true) true n f.type [v] = some y) → ∃ x : α, good x ∧ en x = cs)
    {A : Option Addr} {n c fuel : Nat} {d : DataW H} {p : List MemPlace} (hf : DataW.trod enc P W 0 (fun _ => true) true fuel t [.slice A n c] = some (d, p)) :
    ∃ l, At W sz en A n c l ∧ (∀ x ∈ l, good x) ∧ Takes d c := by
  rcases open_slice hts hf with ⟨hcs, hx⟩ | ⟨a, len, cap, m, k, D, Pl, hcs, _, hl, hm, hmm, hx, hi⟩
  · simp at hcs
    obtain ⟨rfl, rfl, rfl⟩ := hcs
    simp only [Prod.mk.injEq] at hx
    exact ⟨[], At.nil _ _ _, fun x hx => by simp at hx, .inl ⟨hx.1, rfl⟩⟩
  · simp at hcs
    obtain ⟨rfl, rfl, rfl⟩ := hcs
    simp only [Prod.mk.injEq] at hx
    simp only [if_true] at hmm
    subst hmm
    have hT : Takes d m := .inr ⟨_, _, hx.1, by simp; omega⟩
    rcases Nat.eq_zero_or_pos m with h0 | h0
    · subst h0
      obtain rfl : n = 0 := by omega
      exact ⟨[], ⟨rfl, Nat.le_refl _, hm, fun h => (by cases h), fun k x hx => by simp at hx⟩, fun x hx => by simp at hx, hT⟩
    · have hsz0 : ∀ i, i < m → ∃ cs', (∀ j, j < sz → W.cell? ((a.add (i * sz)).add j) = cs'[j]?) ∧ cs'.length = sz ∧ ∃ x, good x ∧ en x = cs' := by
        intro i him
        obtain ⟨cs', hc, ht'⟩ := hi i him
        rw [hC] at hc
        obtain ⟨_, hcl, hat⟩ := World.cells?_some hc
        obtain ⟨ys, n', hn', hy, hlen, hyl, hff⟩ := DataW.trod_struct hte ht'
        refine ⟨cs', hat, hcl, dec cs' n' hcl fun j f hj => ?_⟩
        obtain ⟨ho, hk⟩ := hone_of hone j f hj
        have hjl : j < fs.size := (Array.getElem?_eq_some_iff.1 hj).1
        have h1 := hff j f hj
        rw [ho, hk] at h1
        have h2 : (cs'.drop j).take 1 = [cs'[j]'(by omega)] := by
          rw [List.drop_eq_getElem_cons (by omega)]; rfl
        rw [h2] at h1
        exact ⟨_, _, List.getElem?_eq_getElem (by omega), h1.trans (List.getElem?_eq_getElem (by omega))⟩
      obtain ⟨b, off, spot⟩ := a
      have hs : spot = none := by
        obtain ⟨cs', h1, h2, _⟩ := hsz0 0 h0
        have h3 := h1 0 hz
        rw [List.getElem?_eq_getElem (by omega)] at h3
        have h4 : (((⟨b, off, spot⟩ : Addr).add (0 * sz)).add 0) = ⟨b, off, spot⟩ := by rw [Nat.zero_mul]; unfold Addr.add; rfl
        rw [h4] at h3
        exact cell_spot h3
      subst hs
      obtain ⟨l, h1, h2⟩ := At.of_key (w := W) (sz := sz) (enc := en) (good := good) (b := b) (off := off) hl hm (fun i hin => by
        obtain ⟨cs', g1, g2, x, hx, he⟩ := hsz0 i (by omega)
        refine ⟨x, hx, fun j u hu => ?_⟩
        have hj : j < sz := by
          have := (List.getElem?_eq_some_iff.1 hu).1
          rw [he] at this; omega
        have := g1 j hj
        rw [add_of_add, Addr.add_lit] at this
        rw [show off + i * sz + j = off + (i * sz + j) by omega, this, ← he, hu])
      exact ⟨l, h1, h2, hT⟩
theorem open_structsP {α : Type} {en : α → List Value} {good : α → Prop} {sz : Nat} {t e : TypeId} {fs : Array Field} (hts : P.underlying t = some (.slice e)) (hte : P.underlying e = some (.struct fs))
    (hone : oneCellFields P fs = true) (hC : P.cellsOf e = sz) (hfs : fs.size = sz) (hz : 0 < sz) {W : World}
    (dec : ∀ (cs : List Value) (n : Nat), cs.length = sz → (∀ (j : Nat) (f : Field), fs[j]? = some f → ∃ v y, cs[j]? = some v ∧ DataW.trod enc P W 0 (fun _ => true) true n f.type [v] = some y) → ∃ x : α, good x ∧ en x = cs)
    {base : Nat} {v : Value} {d : DataW H} {p : List MemPlace} (hv : Value.okWide P W .any base t v) (h : DataW.Trod enc P W 0 (fun _ => true) true t v d p) :
    ∃ A n c l, v = .slice A n c ∧ At W sz en A n c l ∧ (∀ x ∈ l, good x) ∧ Takes d c := by
  obtain ⟨A, n, c, rfl⟩ := okWide_slice hts hv
  obtain ⟨fuel, hf⟩ := h
  obtain ⟨l, h1, h2, h3⟩ := open_structsQ hts hte hone hC hfs hz dec (by simpa [Value.cells] using hf)
  exact ⟨A, n, c, l, rfl, h1, h2, h3⟩
/-- Does an int hold both numbers? -/
def ok2 (x : Int × Int) : Prop := (-9223372036854775808 ≤ x.1 ∧ x.1 ≤ 9223372036854775807) ∧ (-9223372036854775808 ≤ x.2 ∧ x.2 ≤ 9223372036854775807)
theorem fldInt {W : World} {t : TypeId} {n : Nat} {v : Value} {y : DataW H × List MemPlace} (ht : P.underlying t = some (.int .i64)) (h : DataW.trod enc P W 0 (fun _ => true) true n t [v] = some y) :
    ∃ x, v = .int .i64 x ∧ (-9223372036854775808 ≤ x ∧ x ≤ 9223372036854775807) := by
  obtain ⟨x, hv, _, hw⟩ := DataW.trod_int ht h
  injection hv with hv _
  exact ⟨x, hv, wf_i64 hw⟩
theorem open_pairsP {t e : TypeId} {f0 f1 : Field} (hts : P.underlying t = some (.slice e)) (hte : P.underlying e = some (.struct #[f0, f1])) (hone : oneCellFields P #[f0, f1] = true) (hC : P.cellsOf e = 2)
    (h0 : P.underlying f0.type = some (.int .i64)) (h1 : P.underlying f1.type = some (.int .i64)) {W : World} {base : Nat} {v : Value} {d : DataW H} {p : List MemPlace} (hv : Value.okWide P W .any base t v)
    (h : DataW.Trod enc P W 0 (fun _ => true) true t v d p) : ∃ A n c l, v = .slice A n c ∧ At W 2 e2 A n c l ∧ (∀ x ∈ l, ok2 x) ∧ Takes d c := by
  refine open_structsP hts hte hone hC rfl (by omega) (fun cs n hl hd => ?_) hv h
  obtain ⟨v0, y0, g0, t0⟩ := hd 0 f0 rfl
  obtain ⟨v1, y1, g1, t1⟩ := hd 1 f1 rfl
  obtain ⟨x0, rfl, b0⟩ := fldInt h0 t0
  obtain ⟨x1, rfl, b1⟩ := fldInt h1 t1
  match cs, hl with
  | [c0, c1], _ =>
    simp at g0 g1
    exact ⟨(x0, x1), ⟨b0, b1⟩, by rw [g0, g1]⟩
/-- An argument of numbers. -/
theorem open_intsQ {t e : TypeId} (hts : P.underlying t = some (.slice e)) (hte : P.underlying e = some (.int .i64)) (htc : P.cellsOf e = 1) {W : World} {A : Option Addr} {n c fuel : Nat} {d : DataW H} {p : List MemPlace}
    (hf : DataW.trod enc P W 0 (fun _ => true) true fuel t [.slice A n c] = some (d, p)) : ∃ l : List Int, At W 1 e64 A n c l ∧ (∀ x ∈ l, -9223372036854775808 ≤ x ∧ x ≤ 9223372036854775807) ∧ Takes d c := by
  rcases open_ints hts hte htc hf with ⟨hcs, hx⟩ | ⟨a, len, cap, zs, hcs, _, hl, hm, hz, hx, hcell, hwz⟩
  · simp at hcs
    obtain ⟨rfl, rfl, rfl⟩ := hcs
    simp only [Prod.mk.injEq] at hx
    exact ⟨[], At.nil _ _ _, fun x hx => by simp at hx, .inl ⟨hx.1, rfl⟩⟩
  · simp at hcs
    obtain ⟨rfl, rfl, rfl⟩ := hcs
    simp only [Prod.mk.injEq] at hx
    simp only [if_true] at hz
    refine ⟨zs.take n, ⟨by simp; omega, hl, hm, fun h => (by cases h), fun k x hxx => ?_⟩, fun x hx => wf_i64 (hwz x (List.mem_of_mem_take hx)), .inr ⟨_, _, hx.1, by simp [lits]; omega⟩⟩
    have hk : k < n := by
      have := (List.getElem?_eq_some_iff.1 hxx).1
      simp at this; omega
    have hc := hcell k (by omega)
    obtain ⟨b, off, spot⟩ := a
    have hs : spot = none := by
      have h3 : ((⟨b, off, spot⟩ : Addr).add 0) = ⟨b, off, spot⟩ := by unfold Addr.add; rfl
      have h4 := hcell 0 (by omega)
      rw [h3] at h4
      exact cell_spot h4
    subst hs
    refine ⟨b, off, rfl, fun j u hu => ?_⟩
    match j, hu with
    | j + 1, hu => simp at hu
    | 0, hu =>
      simp at hu; subst hu
      have hkz : k < zs.length := by omega
      have hx2 : x = zs[k] := by
        rw [List.getElem?_take_of_lt hk, List.getElem?_eq_getElem hkz] at hxx
        simpa using hxx.symm
      rw [Addr.add_lit] at hc
      rw [show off + k * 1 + 0 = off + k by omega, hc, hx2]
      simp [List.getD, List.getElem?_eq_getElem hkz]
theorem open_intsP {t e : TypeId} (hts : P.underlying t = some (.slice e)) (hte : P.underlying e = some (.int .i64)) (htc : P.cellsOf e = 1) {W : World} {base : Nat} {v : Value} {d : DataW H} {p : List MemPlace} (hv : Value.okWide P W .any base t v)
    (h : DataW.Trod enc P W 0 (fun _ => true) true t v d p) : ∃ A n c, ∃ l : List Int, v = .slice A n c ∧ At W 1 e64 A n c l ∧ (∀ x ∈ l, -9223372036854775808 ≤ x ∧ x ≤ 9223372036854775807) ∧ Takes d c := by
  obtain ⟨A, n, c, rfl⟩ := okWide_slice hts hv
  obtain ⟨fuel, hf⟩ := h
  obtain ⟨l, h1, h2, h3⟩ := open_intsQ hts hte htc (by simpa [Value.cells] using hf)
  exact ⟨A, n, c, l, rfl, h1, h2, h3⟩
end
end Go.Proofs.YtoliplgadhdgbaaDoor
