/- Several texts in one: Arguments that are slices of structs (fields of one cell each), read as lists of what the fields say; numbers in an argument. Conditions as stated; Arguments that are slices of elements of whatever type, read as lists. Conditions as stated; Arguments of samples, opened. Conditions as stated; Arguments that are slices of one-cell elements (strings, slices), read as lists. Conditions as stated; Arguments that are films and bytes of tracks, opened. Conditions as stated. -/
import Derived.Test.YtlonhkjplijlcaaMwf46
import Derived.Test.YtlonhkjplijlcaaMwf00
import Derived.Lib.SmallJoins
import Derived.Deep.Slices
import Derived.Deep.Fields
import Derived.Test.YtlonhkjplijlcaaMwf01
import Derived.Test.YtlonhkjplijlcaaMwf05
import Derived.Test.YtlonhkjplijlcaaMwf37
namespace Go.Proofs.Ytlonhkjplijlcaa
open Go.ChangeShapes Go.WideShapes Go.ChangeAt Go.RowKit Go.Joins Go.Deep

theorem wf_i64 {x : Int} (h : (Lit.int .i64 x).wf = true) : -9223372036854775808 ≤ x ∧ x ≤ 9223372036854775807 := by
  simp [Lit.wf, IntKind.min, IntKind.max, IntKind.signed, IntKind.bits] at h
  omega
/-- A list out of its elements' cells. -/
theorem At.of_key {α : Type} {w : World} {sz n c : Nat} {enc : α → List Value} {good : α → Prop} {b off : Nat} (hnc : n ≤ c) (hm : c ≤ maxLen)
    (key : ∀ i, i < n → ∃ x, good x ∧ ∀ (j : Nat) (u : Value), (enc x)[j]? = some u → w.cell? ⟨b, off + i * sz + j, none⟩ = some u) :
    ∃ l, At w sz enc (some ⟨b, off, none⟩) n c l ∧ ∀ x ∈ l, good x := by
  have h : ∀ m, m ≤ n → ∃ l : List α, l.length = m ∧ (∀ x ∈ l, good x) ∧ ∀ (k : Nat) (x : α), l[k]? = some x → ∀ (j : Nat) (u : Value), (enc x)[j]? = some u → w.cell? ⟨b, off + k * sz + j, none⟩ = some u := by
    intro m
    induction m with
    | zero => exact fun _ => ⟨[], rfl, fun x hx => by simp at hx, fun k x hx => by simp at hx⟩
    | succ m ih =>
      intro hmn
      obtain ⟨l, h1, h2, h3⟩ := ih (by omega)
      obtain ⟨x, hx, hc⟩ := key m (by omega)
      refine ⟨l ++ [x], by simp [h1], fun y hy => ?_, fun k y hy => ?_⟩
      · rcases List.mem_append.1 hy with h | h
        · exact h2 y h
        · simp at h; subst h; exact hx
      · by_cases hk : k < l.length
        · rw [List.getElem?_append_left hk] at hy
          exact h3 k y hy
        · have hlt : k < (l ++ [x]).length := (List.getElem?_eq_some_iff.1 hy).1
          simp at hlt
          obtain rfl : k = l.length := by omega
          simp at hy; subst hy
          rw [h1]; exact hc
  obtain ⟨l, h1, h2, h3⟩ := h n (Nat.le_refl _)
  exact ⟨l, ⟨h1, hnc, hm, fun h => (by cases h), fun k x hx => ⟨b, off, rfl, fun j u hu => h3 k x hx j u hu⟩⟩, h2⟩
section
variable {H : Type} {enc : TypeId × Value → H} {P : Program}
/-- An argument that is a slice of structs: dec reads one. -/
theorem open_structsQ {α : Type} {en : α → List Value} {good : α → Prop} {sz : Nat} {t e : TypeId} {fs : Array Field} (hts : P.underlying t = some (.slice e)) (hte : P.underlying e = some (.struct fs))
    (hone : oneCellFields P fs = true) (hC : P.cellsOf e = sz) (hfs : fs.size = sz) (hz : 0 < sz) {W : World}
    (dec : ∀ (cs : List Value) (n : Nat), cs.length = sz → (∀ (j : Nat) (f : Field), fs[j]? = some f → ∃ v y, cs[j]? = some v ∧ DataW.trod enc P W 0 (fun _ => true) true n f.type [v] = some y) → ∃ x : α, good x ∧ en x = cs)
    {A : Option Addr} {n c fuel : Nat} {d : DataW H} {p : List MemPlace} (hf : DataW.trod enc P W 0 (fun _ => true) true fuel t [.slice A n c] = some (d, p)) :
    ∃ l, At W sz en A n c l ∧ (∀ x ∈ l, good x) ∧ Takes d c := by
  rcases open_slice hts hf with ⟨hcs, hx⟩ | ⟨a, len, cap, m, k, D, Pl, hcs, _, hl, hm, hmm, hx, hi⟩
  · simp at hcs
    obtain ⟨rfl, rfl, rfl⟩ := hcs
    simp only [Prod.mk.injEq] at hx
    exact ⟨[], At.nil _ _ _, fun x hx => by simp at hx, .inl ⟨hx.1, rfl⟩⟩
  · simp at hcs
    obtain ⟨rfl, rfl, rfl⟩ := hcs
    simp only [Prod.mk.injEq] at hx
    simp only [if_true] at hmm
    subst hmm
    have hT : Takes d m := .inr ⟨_, _, hx.1, by simp; omega⟩
    rcases Nat.eq_zero_or_pos m with h0 | h0
    · subst h0
      obtain rfl : n = 0 := by omega
      exact ⟨[], ⟨rfl, Nat.le_refl _, hm, fun h => (by cases h), fun k x hx => by simp at hx⟩, fun x hx => by simp at hx, hT⟩
    · have hsz0 : ∀ i, i < m → ∃ cs', (∀ j, j < sz → W.cell? ((a.add (i * sz)).add j) = cs'[j]?) ∧ cs'.length = sz ∧ ∃ x, good x ∧ en x = cs' := by
        intro i him
        obtain ⟨cs', hc, ht'⟩ := hi i him
        rw [hC] at hc
        obtain ⟨_, hcl, hat⟩ := World.cells?_some hc
        obtain ⟨ys, n', hn', hy, hlen, hyl, hff⟩ := DataW.trod_struct hte ht'
        refine ⟨cs', hat, hcl, dec cs' n' hcl fun j f hj => ?_⟩
        obtain ⟨ho, hk⟩ := hone_of hone j f hj
        have hjl : j < fs.size := (Array.getElem?_eq_some_iff.1 hj).1
        have h1 := hff j f hj
        rw [ho, hk] at h1
        have h2 : (cs'.drop j).take 1 = [cs'[j]'(by omega)] := by
          rw [List.drop_eq_getElem_cons (by omega)]; rfl
        rw [h2] at h1
        exact ⟨_, _, List.getElem?_eq_getElem (by omega), h1.trans (List.getElem?_eq_getElem (by omega))⟩
      obtain ⟨b, off, spot⟩ := a
      have hs : spot = none := by
        obtain ⟨cs', h1, h2, _⟩ := hsz0 0 h0
        have h3 := h1 0 hz
        rw [List.getElem?_eq_getElem (by omega)] at h3
        have h4 : (((⟨b, off, spot⟩ : Addr).add (0 * sz)).add 0) = ⟨b, off, spot⟩ := by rw [Nat.zero_mul]; unfold Addr.add; rfl
        rw [h4] at h3
        exact cell_spot h3
      subst hs
      obtain ⟨l, h1, h2⟩ := At.of_key (w := W) (sz := sz) (enc := en) (good := good) (b := b) (off := off) hl hm (fun i hin => by
        obtain ⟨cs', g1, g2, x, hx, he⟩ := hsz0 i (by omega)
        refine ⟨x, hx, fun j u hu => ?_⟩
        have hj : j < sz := by
          have := (List.getElem?_eq_some_iff.1 hu).1
          rw [he] at this; omega
        have := g1 j hj
        rw [add_of_add, Addr.add_lit] at this
        rw [show off + i * sz + j = off + (i * sz + j) by omega, this, ← he, hu])
      exact ⟨l, h1, h2, hT⟩
theorem open_structsP {α : Type} {en : α → List Value} {good : α → Prop} {sz : Nat} {t e : TypeId} {fs : Array Field} (hts : P.underlying t = some (.slice e)) (hte : P.underlying e = some (.struct fs))
    (hone : oneCellFields P fs = true) (hC : P.cellsOf e = sz) (hfs : fs.size = sz) (hz : 0 < sz) {W : World}
    (dec : ∀ (cs : List Value) (n : Nat), cs.length = sz → (∀ (j : Nat) (f : Field), fs[j]? = some f → ∃ v y, cs[j]? = some v ∧ DataW.trod enc P W 0 (fun _ => true) true n f.type [v] = some y) → ∃ x : α, good x ∧ en x = cs)
    {base : Nat} {v : Value} {d : DataW H} {p : List MemPlace} (hv : Value.okWide P W .any base t v) (h : DataW.Trod enc P W 0 (fun _ => true) true t v d p) :
    ∃ A n c l, v = .slice A n c ∧ At W sz en A n c l ∧ (∀ x ∈ l, good x) ∧ Takes d c := by
  obtain ⟨A, n, c, rfl⟩ := okWide_slice hts hv
  obtain ⟨fuel, hf⟩ := h
  obtain ⟨l, h1, h2, h3⟩ := open_structsQ hts hte hone hC hfs hz dec (by simpa [Value.cells] using hf)
  exact ⟨A, n, c, l, rfl, h1, h2, h3⟩
/-- Does an int hold both numbers? -/
def ok2 (x : Int × Int) : Prop := (-9223372036854775808 ≤ x.1 ∧ x.1 ≤ 9223372036854775807) ∧ (-9223372036854775808 ≤ x.2 ∧ x.2 ≤ 9223372036854775807)
theorem fldInt {W : World} {t : TypeId} {n : Nat} {v : Value} {y : DataW H × List MemPlace} (ht : P.underlying t = some (.int .i64)) (h : DataW.trod enc P W 0 (fun _ => true) true n t [v] = some y) :
    ∃ x, v = .int .i64 x ∧ (-9223372036854775808 ≤ x ∧ x ≤ 9223372036854775807) := by
  obtain ⟨x, hv, _, hw⟩ := DataW.trod_int ht h
  injection hv with hv _
  exact ⟨x, hv, wf_i64 hw⟩
theorem open_pairsP {t e : TypeId} {f0 f1 : Field} (hts : P.underlying t = some (.slice e)) (hte : P.underlying e = some (.struct #[f0, f1])) (hone : oneCellFields P #[f0, f1] = true) (hC : P.cellsOf e = 2)
    (h0 : P.underlying f0.type = some (.int .i64)) (h1 : P.underlying f1.type = some (.int .i64)) {W : World} {base : Nat} {v : Value} {d : DataW H} {p : List MemPlace} (hv : Value.okWide P W .any base t v)
    (h : DataW.Trod enc P W 0 (fun _ => true) true t v d p) : ∃ A n c l, v = .slice A n c ∧ At W 2 e2 A n c l ∧ (∀ x ∈ l, ok2 x) ∧ Takes d c := by
  refine open_structsP hts hte hone hC rfl (by omega) (fun cs n hl hd => ?_) hv h
  obtain ⟨v0, y0, g0, t0⟩ := hd 0 f0 rfl
  obtain ⟨v1, y1, g1, t1⟩ := hd 1 f1 rfl
  obtain ⟨x0, rfl, b0⟩ := fldInt h0 t0
  obtain ⟨x1, rfl, b1⟩ := fldInt h1 t1
  match cs, hl with
  | [c0, c1], _ =>
    simp at g0 g1
    exact ⟨(x0, x1), ⟨b0, b1⟩, by rw [g0, g1]⟩
/-- An argument of numbers. -/
theorem open_intsQ {t e : TypeId} (hts : P.underlying t = some (.slice e)) (hte : P.underlying e = some (.int .i64)) (htc : P.cellsOf e = 1) {W : World} {A : Option Addr} {n c fuel : Nat} {d : DataW H} {p : List MemPlace}
    (hf : DataW.trod enc P W 0 (fun _ => true) true fuel t [.slice A n c] = some (d, p)) : ∃ l : List Int, At W 1 e64 A n c l ∧ (∀ x ∈ l, -9223372036854775808 ≤ x ∧ x ≤ 9223372036854775807) ∧ Takes d c := by
  rcases open_ints hts hte htc hf with ⟨hcs, hx⟩ | ⟨a, len, cap, zs, hcs, _, hl, hm, hz, hx, hcell, hwz⟩
  · simp at hcs
    obtain ⟨rfl, rfl, rfl⟩ := hcs
    simp only [Prod.mk.injEq] at hx
    exact ⟨[], At.nil _ _ _, fun x hx => by simp at hx, .inl ⟨hx.1, rfl⟩⟩
  · simp at hcs
    obtain ⟨rfl, rfl, rfl⟩ := hcs
    simp only [Prod.mk.injEq] at hx
    simp only [if_true] at hz
    refine ⟨zs.take n, ⟨by simp; omega, hl, hm, fun h => (by cases h), fun k x hxx => ?_⟩, fun x hx => wf_i64 (hwz x (List.mem_of_mem_take hx)), .inr ⟨_, _, hx.1, by simp [lits]; omega⟩⟩
    have hk : k < n := by
      have := (List.getElem?_eq_some_iff.1 hxx).1
      simp at this; omega
    have hc := hcell k (by omega)
    obtain ⟨b, off, spot⟩ := a
    have hs : spot = none := by
      have h3 : ((⟨b, off, spot⟩ : Addr).add 0) = ⟨b, off, spot⟩ := by unfold Addr.add; rfl
      have h4 := hcell 0 (by omega)
      rw [h3] at h4
      exact cell_spot h4
    subst hs
    refine ⟨b, off, rfl, fun j u hu => ?_⟩
    match j, hu with
    | j + 1, hu => simp at hu
    | 0, hu =>
      simp at hu; subst hu
      have hkz : k < zs.length := by omega
      have hx2 : x = zs[k] := by
        rw [List.getElem?_take_of_lt hk, List.getElem?_eq_getElem hkz] at hxx
        simpa using hxx.symm
      rw [Addr.add_lit] at hc
      rw [show off + k * 1 + 0 = off + k by omega, hc, hx2]
      simp [List.getD, List.getElem?_eq_getElem hkz]
theorem open_intsP {t e : TypeId} (hts : P.underlying t = some (.slice e)) (hte : P.underlying e = some (.int .i64)) (htc : P.cellsOf e = 1) {W : World} {base : Nat} {v : Value} {d : DataW H} {p : List MemPlace} (hv : Value.okWide P W .any base t v)
    (h : DataW.Trod enc P W 0 (fun _ => true) true t v d p) : ∃ A n c, ∃ l : List Int, v = .slice A n c ∧ At W 1 e64 A n c l ∧ (∀ x ∈ l, -9223372036854775808 ≤ x ∧ x ≤ 9223372036854775807) ∧ Takes d c := by
  obtain ⟨A, n, c, rfl⟩ := okWide_slice hts hv
  obtain ⟨fuel, hf⟩ := h
  obtain ⟨l, h1, h2, h3⟩ := open_intsQ hts hte htc (by simpa [Value.cells] using hf)
  exact ⟨A, n, c, l, rfl, h1, h2, h3⟩
end
end Go.Proofs.Ytlonhkjplijlcaa
namespace Go.Proofs.Ytlonhkjplijlcaa
open Go.ChangeShapes Go.WideShapes Go.ChangeAt Go.RowKit Go.Joins Go.Deep

section
variable {H : Type} {enc : TypeId × Value → H} {P : Program}
/-- An argument that is a slice: dec reads an element of sz cells. -/
theorem open_elemsQ {α : Type} {en : α → List Value} {good : α → Prop} {sz : Nat} {t e : TypeId} (hts : P.underlying t = some (.slice e)) (hC : P.cellsOf e = sz) (hz : 0 < sz) {W : World}
    (dec : ∀ (cs : List Value) (n : Nat) (y : DataW H × List MemPlace), cs.length = sz → DataW.trod enc P W 0 (fun _ => true) true n e cs = some y → ∃ x : α, good x ∧ en x = cs)
    {A : Option Addr} {n c fuel : Nat} {d : DataW H} {p : List MemPlace} (hf : DataW.trod enc P W 0 (fun _ => true) true fuel t [.slice A n c] = some (d, p)) :
    ∃ l, At W sz en A n c l ∧ (∀ x ∈ l, good x) ∧ Takes d c := by
  rcases open_slice hts hf with ⟨hcs, hx⟩ | ⟨a, len, cap, m, k, D, Pl, hcs, _, hl, hm, hmm, hx, hi⟩
  · simp at hcs
    obtain ⟨rfl, rfl, rfl⟩ := hcs
    simp only [Prod.mk.injEq] at hx
    exact ⟨[], At.nil _ _ _, fun x hx => by simp at hx, .inl ⟨hx.1, rfl⟩⟩
  · simp at hcs
    obtain ⟨rfl, rfl, rfl⟩ := hcs
    simp only [Prod.mk.injEq] at hx
    simp only [if_true] at hmm
    subst hmm
    have hT : Takes d m := .inr ⟨_, _, hx.1, by simp; omega⟩
    rcases Nat.eq_zero_or_pos m with h0 | h0
    · subst h0
      obtain rfl : n = 0 := by omega
      exact ⟨[], ⟨rfl, Nat.le_refl _, hm, fun h => (by cases h), fun k x hx => by simp at hx⟩, fun x hx => by simp at hx, hT⟩
    · have hsz0 : ∀ i, i < m → ∃ cs', (∀ j, j < sz → W.cell? ((a.add (i * sz)).add j) = cs'[j]?) ∧ cs'.length = sz ∧ ∃ x, good x ∧ en x = cs' := by
        intro i him
        obtain ⟨cs', hc, ht'⟩ := hi i him
        rw [hC] at hc
        obtain ⟨_, hcl, hat⟩ := World.cells?_some hc
        exact ⟨cs', hat, hcl, dec cs' _ _ hcl ht'⟩
      obtain ⟨b, off, spot⟩ := a
      have hs : spot = none := by
        obtain ⟨cs', h1, h2, _⟩ := hsz0 0 h0
        have h3 := h1 0 hz
        rw [List.getElem?_eq_getElem (by omega)] at h3
        have h4 : (((⟨b, off, spot⟩ : Addr).add (0 * sz)).add 0) = ⟨b, off, spot⟩ := by rw [Nat.zero_mul]; unfold Addr.add; rfl
        rw [h4] at h3
        exact cell_spot h3
      subst hs
      obtain ⟨l, h1, h2⟩ := At.of_key (w := W) (sz := sz) (enc := en) (good := good) (b := b) (off := off) hl hm (fun i hin => by
        obtain ⟨cs', g1, g2, x, hx, he⟩ := hsz0 i (by omega)
        refine ⟨x, hx, fun j u hu => ?_⟩
        have hj : j < sz := by
          have := (List.getElem?_eq_some_iff.1 hu).1
          rw [he] at this; omega
        have := g1 j hj
        rw [add_of_add, Addr.add_lit] at this
        rw [show off + i * sz + j = off + (i * sz + j) by omega, this, ← he, hu])
      exact ⟨l, h1, h2, hT⟩
theorem open_elemsP {α : Type} {en : α → List Value} {good : α → Prop} {sz : Nat} {t e : TypeId} (hts : P.underlying t = some (.slice e)) (hC : P.cellsOf e = sz) (hz : 0 < sz) {W : World}
    (dec : ∀ (cs : List Value) (n : Nat) (y : DataW H × List MemPlace), cs.length = sz → DataW.trod enc P W 0 (fun _ => true) true n e cs = some y → ∃ x : α, good x ∧ en x = cs)
    {base : Nat} {v : Value} {d : DataW H} {p : List MemPlace} (hv : Value.okWide P W .any base t v) (h : DataW.Trod enc P W 0 (fun _ => true) true t v d p) :
    ∃ A n c l, v = .slice A n c ∧ At W sz en A n c l ∧ (∀ x ∈ l, good x) ∧ Takes d c := by
  obtain ⟨A, n, c, rfl⟩ := okWide_slice hts hv
  obtain ⟨fuel, hf⟩ := h
  obtain ⟨l, h1, h2, h3⟩ := open_elemsQ hts hC hz dec (by simpa [Value.cells] using hf)
  exact ⟨A, n, c, l, rfl, h1, h2, h3⟩
/-- A field that is a slice of structs whose fields have a cell each. -/
theorem fldElems {α : Type} {en : α → List Value} {good : α → Prop} {sz : Nat} {t e : TypeId} (hts : P.underlying t = some (.slice e)) (hC : P.cellsOf e = sz) (hz : 0 < sz) {W : World}
    (dec : ∀ (cs : List Value) (n : Nat) (y : DataW H × List MemPlace), cs.length = sz → DataW.trod enc P W 0 (fun _ => true) true n e cs = some y → ∃ x : α, good x ∧ en x = cs)
    {n : Nat} {v : Value} {y : DataW H × List MemPlace} (h : DataW.trod enc P W 0 (fun _ => true) true n t [v] = some y) : ∃ A n c l, v = .slice A n c ∧ At W sz en A n c l ∧ (∀ x ∈ l, good x) := by
  have hv : ∃ A n c, v = .slice A n c := by
    rcases open_slice hts h with ⟨hcs, _⟩ | ⟨a, len, cap, m, k, D, Pl, hcs, _⟩
    · injection hcs with hcs _; exact ⟨_, _, _, hcs⟩
    · injection hcs with hcs _; exact ⟨_, _, _, hcs⟩
  obtain ⟨A, k, c, rfl⟩ := hv
  obtain ⟨d, p⟩ := y
  obtain ⟨l, h1, h2, _⟩ := open_elemsQ hts hC hz dec h
  exact ⟨A, k, c, l, rfl, h1, h2⟩
/-- What a field of a struct is, in its cells. -/
theorem fldAt {W : World} {n c : Nat} {t : TypeId} {vs : List Value} {cs : List Value} {r : Option (DataW H × List MemPlace)} (hs : (cs.drop c).take (P.cellsOf t) = vs) {off : Nat} (ho : off = c) (h : DataW.trod enc P W 0 (fun _ => true) true n t ((cs.drop off).take (P.cellsOf t)) = r) :
    DataW.trod enc P W 0 (fun _ => true) true n t vs = r := by
  subst ho; rw [hs] at h; exact h
end
section
variable {H : Type} {enc : TypeId × Value → H} {P : Program} {w : World} {base : Nat} {spare : Nat → Bool} {held : Bool}
theorem trodAll5 {t t' t2 t3 t4 : TypeId} {args : Array Value} {ds : List (DataW H)} {ps : List MemPlace} (h : DataW.TrodAll enc P w base spare held [t, t', t2, t3, t4] args.toList ds ps) :
    ∃ v v' v2 v3 v4 d d' d2 d3 d4 p p' p2 p3 p4, args = #[v, v', v2, v3, v4] ∧ ds = [d, d', d2, d3, d4] ∧ ps = p ++ p' ++ p2 ++ p3 ++ p4 ∧ DataW.Trod enc P w base spare held t v d p ∧ DataW.Trod enc P w base spare held t' v' d' p' ∧ DataW.Trod enc P w base spare held t2 v2 d2 p2 ∧ DataW.Trod enc P w base spare held t3 v3 d3 p3 ∧ DataW.Trod enc P w base spare held t4 v4 d4 p4 := by
  obtain ⟨v, vs, d, ds', p, q, hargs, rfl, rfl, hd, hrest⟩ := trodAll_cons h
  obtain ⟨v', vs', d', ds1, p', q', rfl, rfl, rfl, hd', hrest'⟩ := trodAll_cons hrest
  obtain ⟨v2, vs2, d2, ds2, p2, q2, rfl, rfl, rfl, hd2, hrest2⟩ := trodAll_cons hrest'
  obtain ⟨v3, vs3, d3, ds3, p3, q3, rfl, rfl, rfl, hd3, hrest3⟩ := trodAll_cons hrest2
  obtain ⟨v4, vs4, d4, ds4, p4, q4, rfl, rfl, rfl, hd4, hrest4⟩ := trodAll_cons hrest3
  obtain ⟨rfl, rfl, rfl⟩ := trodAll_nil hrest4
  exact ⟨v, v', v2, v3, v4, d, d', d2, d3, d4, p, p', p2, p3, p4, by cases args; simp_all, rfl, by simp, hd, hd', hd2, hd3, hd4⟩
end
end Go.Proofs.Ytlonhkjplijlcaa
namespace Go.Proofs.Ytlonhkjplijlcaa
open Go.ChangeShapes Go.WideShapes Go.ChangeAt Go.RowKit Go.Joins Go.Deep
section
variable {H : Type} {enc : TypeId × Value → H} {W : World} {base : Nat}
/-- The numbers of a sample are ints. -/
def okS (x : Smp) : Prop := (-9223372036854775808 ≤ x.time ∧ x.time ≤ 9223372036854775807) ∧ (-9223372036854775808 ≤ x.step ∧ x.step ≤ 9223372036854775807) ∧ (-9223372036854775808 ≤ x.shift ∧ x.shift ≤ 9223372036854775807) ∧ (-9223372036854775808 ≤ x.size ∧ x.size ≤ 9223372036854775807)
theorem fldBool {P : Program} {t : TypeId} {n : Nat} {v : Value} {y : DataW H × List MemPlace} (ht : P.underlying t = some .bool) (h : DataW.trod enc P W 0 (fun _ => true) true n t [v] = some y) : ∃ b, v = .bool b := by
  obtain ⟨b, hv, _⟩ := DataW.trod_bool ht h
  injection hv with hv _
  exact ⟨b, hv⟩
theorem decSmp {f0 f1 f2 f3 f4 : Field} (h0 : Try.prog.underlying f0.type = some (.int .i64)) (h1 : Try.prog.underlying f1.type = some (.int .i64)) (h2 : Try.prog.underlying f2.type = some (.int .i64)) (h3 : Try.prog.underlying f3.type = some (.int .i64)) (h4 : Try.prog.underlying f4.type = some .bool)
    (cs : List Value) (n : Nat) (hl : cs.length = 5) (hd : ∀ (j : Nat) (f : Field), #[f0, f1, f2, f3, f4][j]? = some f → ∃ v y, cs[j]? = some v ∧ DataW.trod enc Try.prog W 0 (fun _ => true) true n f.type [v] = some y) : ∃ x : Smp, okS x ∧ eSm x = cs := by
  obtain ⟨v0, y0, g0, t0⟩ := hd 0 f0 rfl
  obtain ⟨v1, y1, g1, t1⟩ := hd 1 f1 rfl
  obtain ⟨v2, y2, g2, t2⟩ := hd 2 f2 rfl
  obtain ⟨v3, y3, g3, t3⟩ := hd 3 f3 rfl
  obtain ⟨v4, y4, g4, t4⟩ := hd 4 f4 rfl
  obtain ⟨x0, rfl, b0⟩ := fldInt h0 t0
  obtain ⟨x1, rfl, b1⟩ := fldInt h1 t1
  obtain ⟨x2, rfl, b2⟩ := fldInt h2 t2
  obtain ⟨x3, rfl, b3⟩ := fldInt h3 t3
  obtain ⟨x4, rfl⟩ := fldBool h4 t4
  match cs, hl with
  | [c0, c1, c2, c3, c4], _ =>
    simp at g0 g1 g2 g3 g4
    exact ⟨⟨x0, x1, x2, x3, x4⟩, ⟨b0, b1, b2, b3⟩, by rw [g0, g1, g2, g3, g4]⟩
set_option maxRecDepth 100000 in
theorem open_samples {v : Value} {d : DataW H} {p : List MemPlace} (hv : Value.okWide Try.prog W .any base 50 v) (h : DataW.Trod enc Try.prog W 0 (fun _ => true) true 50 v d p) :
    ∃ A n c l, v = .slice A n c ∧ At W 5 eSm A n c l ∧ (∀ x ∈ l, okS x) ∧ Takes d c :=
  open_structsP (sz := 5) Try.underlying50 Try.underlying55 (by kernel_rfl) (by kernel_rfl) rfl (by omega) (decSmp Try.underlying3 Try.underlying3 Try.underlying3 Try.underlying3 Try.underlying4) hv h
end
end Go.Proofs.Ytlonhkjplijlcaa
namespace Go.Proofs.Ytlonhkjplijlcaa
open Go.ChangeShapes Go.WideShapes Go.ChangeAt Go.RowKit Go.Joins Go.Deep

section
variable {H : Type} {enc : TypeId × Value → H} {P : Program}
theorem open_onesQ {α : Type} {en : α → List Value} {good : α → Prop} {t e : TypeId} (hts : P.underlying t = some (.slice e)) (hC : P.cellsOf e = 1) {W : World}
    (dec : ∀ (v : Value) (n : Nat) (y : DataW H × List MemPlace), DataW.trod enc P W 0 (fun _ => true) true n e [v] = some y → ∃ x : α, good x ∧ en x = [v])
    {A : Option Addr} {n c fuel : Nat} {d : DataW H} {p : List MemPlace} (hf : DataW.trod enc P W 0 (fun _ => true) true fuel t [.slice A n c] = some (d, p)) :
    ∃ l, At W 1 en A n c l ∧ (∀ x ∈ l, good x) ∧ Takes d c := by
  rcases open_slice hts hf with ⟨hcs, hx⟩ | ⟨a, len, cap, m, k, D, Pl, hcs, _, hl, hm, hmm, hx, hi⟩
  · simp at hcs
    obtain ⟨rfl, rfl, rfl⟩ := hcs
    simp only [Prod.mk.injEq] at hx
    exact ⟨[], At.nil _ _ _, fun x hx => by simp at hx, .inl ⟨hx.1, rfl⟩⟩
  · simp at hcs
    obtain ⟨rfl, rfl, rfl⟩ := hcs
    simp only [Prod.mk.injEq] at hx
    simp only [if_true] at hmm
    subst hmm
    have hT : Takes d m := .inr ⟨_, _, hx.1, by simp; omega⟩
    rcases Nat.eq_zero_or_pos m with h0 | h0
    · subst h0
      obtain rfl : n = 0 := by omega
      exact ⟨[], ⟨rfl, Nat.le_refl _, hm, fun h => (by cases h), fun k x hx => by simp at hx⟩, fun x hx => by simp at hx, hT⟩
    · have hsz0 : ∀ i, i < m → ∃ u, W.cell? ((a.add (i * 1)).add 0) = some u ∧ ∃ x, good x ∧ en x = [u] := by
        intro i him
        obtain ⟨cs', hc, ht'⟩ := hi i him
        rw [hC] at hc
        obtain ⟨_, hcl, hat⟩ := World.cells?_some hc
        match cs', hcl with
        | [u], _ => exact ⟨u, by have := hat 0 (by omega); simpa using this, dec u _ _ ht'⟩
      obtain ⟨b, off, spot⟩ := a
      have hs : spot = none := by
        obtain ⟨u, h1, _⟩ := hsz0 0 h0
        have h4 : (((⟨b, off, spot⟩ : Addr).add (0 * 1)).add 0) = ⟨b, off, spot⟩ := by rw [Nat.zero_mul]; unfold Addr.add; rfl
        rw [h4] at h1
        exact cell_spot h1
      subst hs
      obtain ⟨l, h1, h2⟩ := At.of_key (w := W) (sz := 1) (enc := en) (good := good) (b := b) (off := off) hl hm (fun i hin => by
        obtain ⟨u, g1, x, hx, he⟩ := hsz0 i (by omega)
        refine ⟨x, hx, fun j v hu => ?_⟩
        rw [he] at hu
        match j, hu with
        | 0, hu =>
          simp at hu; subst hu
          rw [add_of_add, Addr.add_lit] at g1
          rw [show off + i * 1 + 0 = off + (i * 1 + 0) by omega]
          exact g1
        | j + 1, hu => simp at hu)
      exact ⟨l, h1, h2, hT⟩
theorem fldIntsP {t e : TypeId} (hts : P.underlying t = some (.slice e)) (hte : P.underlying e = some (.int .i64)) (htc : P.cellsOf e = 1) {W : World} {n : Nat} {v : Value} {y : DataW H × List MemPlace}
    (h : DataW.trod enc P W 0 (fun _ => true) true n t [v] = some y) : ∃ A n c, ∃ l : List Int, v = .slice A n c ∧ At W 1 e64 A n c l ∧ (∀ x ∈ l, -9223372036854775808 ≤ x ∧ x ≤ 9223372036854775807) ∧ Takes y.1 c := by
  have hv : ∃ A n c, v = .slice A n c := by
    rcases open_ints hts hte htc h with ⟨hcs, _⟩ | ⟨a, len, cap, zs, hcs, _⟩
    · injection hcs with hcs _; exact ⟨_, _, _, hcs⟩
    · injection hcs with hcs _; exact ⟨_, _, _, hcs⟩
  obtain ⟨A, k, c, rfl⟩ := hv
  obtain ⟨d, p⟩ := y
  obtain ⟨l, h1, h2, h3⟩ := open_intsQ hts hte htc h
  exact ⟨A, k, c, l, rfl, h1, h2, h3⟩
theorem fldSlice {t e : TypeId} (hts : P.underlying t = some (.slice e)) {W : World} {n : Nat} {v : Value} {y : DataW H × List MemPlace}
    (h : DataW.trod enc P W 0 (fun _ => true) true n t [v] = some y) : ∃ A n c, v = .slice A n c := by
  rcases open_slice hts h with ⟨hcs, _⟩ | ⟨a, len, cap, m, k, D, Pl, hcs, _⟩
  · injection hcs with hcs _; exact ⟨_, _, _, hcs⟩
  · injection hcs with hcs _; exact ⟨_, _, _, hcs⟩
theorem At.map1 {α β : Type} {w : World} {sz : Nat} {en : α → List Value} {em : β → List Value} {A : Option Addr} {n c : Nat} {l : List α} (f : α → β) (he : ∀ x, en x = em (f x)) (h : At w sz en A n c l) : At w sz em A n c (l.map f) :=
  ⟨by have := h.len; simpa using this, h.le, h.max, h.none_, fun k x hx => by
    rw [List.getElem?_map] at hx
    cases hl : l[k]? with
    | none => rw [hl] at hx; cases hx
    | some y =>
      rw [hl] at hx
      simp at hx; subst hx
      obtain ⟨b, off, e, hc⟩ := h.cells k y hl
      exact ⟨b, off, e, fun j u hu => hc j u (by rw [he]; exact hu)⟩⟩
theorem fldRowsP {t e q : TypeId} (hts : P.underlying t = some (.slice e)) (hC : P.cellsOf e = 1) (hte : P.underlying e = some (.slice q)) (htq : P.underlying q = some (.int .i64)) (hq : P.cellsOf q = 1) {W : World} {n : Nat} {v : Value} {y : DataW H × List MemPlace}
    (h : DataW.trod enc P W 0 (fun _ => true) true n t [v] = some y) : ∃ A n c, ∃ S : List (List Int), v = .slice A n c ∧ Rws W A n c S ∧ ∀ l ∈ S, ∀ x ∈ l, -9223372036854775808 ≤ x ∧ x ≤ 9223372036854775807 := by
  obtain ⟨A, k, c, rfl⟩ := fldSlice hts h
  obtain ⟨d, p⟩ := y
  obtain ⟨l, h1, h2, _⟩ := open_onesQ (α := (Option Addr × Nat × Nat) × List Int) (en := fun x => eH x.1) (good := fun x => At W 1 e64 x.1.1 x.1.2.1 x.1.2.2 x.2 ∧ ∀ z ∈ x.2, -9223372036854775808 ≤ z ∧ z ≤ 9223372036854775807) hts hC
    (fun v n y hy => by
      obtain ⟨A, n, c, l, rfl, g1, g2, _⟩ := fldIntsP hte htq hq hy
      exact ⟨((A, n, c), l), ⟨g1, g2⟩, rfl⟩) h
  have h2 : ∀ x ∈ l, At W 1 e64 x.1.1 x.1.2.1 x.1.2.2 x.2 ∧ ∀ z ∈ x.2, -9223372036854775808 ≤ z ∧ z ≤ 9223372036854775807 := h2
  have hl := h1.len
  have hm : At W 1 eH A k c (l.map Prod.fst) := At.map1 (en := fun x => eH x.1) Prod.fst (fun _ => rfl) h1
  refine ⟨A, k, c, l.map (·.2), rfl, ⟨by simpa using hl, l.map Prod.fst, hm, fun i hi => ?_⟩, fun r hr => ?_⟩
  · have hil : i < l.length := by omega
    have hx := (h2 (l[i]'hil) (List.getElem_mem hil)).1
    simp only [List.getD, List.getElem?_map, List.getElem?_eq_getElem hil, Option.map_some, Option.getD_some]
    exact hx
  · obtain ⟨x, hx, rfl⟩ := List.mem_map.1 hr
    exact (h2 x hx).2
end
end Go.Proofs.Ytlonhkjplijlcaa
namespace Go.Proofs.Ytlonhkjplijlcaa
open Go.ChangeShapes Go.WideShapes Go.ChangeAt Go.RowKit Go.Joins Go.Deep
section
variable {H : Type} {enc : TypeId × Value → H} {W : World} {base : Nat}
theorem fldStrF {P : Program} {t : TypeId} {n : Nat} {v : Value} {y : DataW H × List MemPlace} (ht : P.underlying t = some .string) (h : DataW.trod enc P W 0 (fun _ => true) true n t [v] = some y) :
    ∃ l : List UInt8, v = .string ⟨l.toArray⟩ ∧ l.length ≤ maxLen := by
  obtain ⟨s, hv, _, hs⟩ := DataW.trod_string ht h
  injection hv with hv _
  refine ⟨s.data.toList, ?_, ?_⟩
  · rw [hv, Array.toArray_toList]
  · rw [Array.length_toList]; exact hs
theorem trkH_def : (default : TrkH) = ⟨[], 0, none, 0, 0, none, 0, 0⟩ := rfl
set_option maxRecDepth 100000 in
theorem open_tracks {n : Nat} {A : Option Addr} {m c : Nat} {y : DataW H × List MemPlace} (h : DataW.trod enc Try.prog W 0 (fun _ => true) true n 22 [.slice A m c] = some y) :
    ∃ hs T, TksAt W A m c hs T ∧ nmF T := by
  obtain ⟨d, p⟩ := y
  obtain ⟨l, h1, h2, _⟩ := open_structsQ (α := TrkH × TrkT) (en := fun q => eTk q.1) (good := fun q => TkOk W q.1 q.2 ∧ q.2.name.length ≤ maxLen) (sz := 4) Try.underlying22 Try.underlying53 (by kernel_rfl) (by kernel_rfl) rfl (by omega) (fun cs k hl hd => by
    obtain ⟨v0, y0, g0, t0⟩ := hd 0 _ rfl
    obtain ⟨v1, y1, g1, t1⟩ := hd 1 _ rfl
    obtain ⟨v2, y2, g2, t2⟩ := hd 2 _ rfl
    obtain ⟨v3, y3, g3, t3⟩ := hd 3 _ rfl
    obtain ⟨nm, rfl, hnm⟩ := fldStrF Try.underlying9 t0
    obtain ⟨x1, rfl, _⟩ := fldInt Try.underlying3 t1
    obtain ⟨sA, sn, sc, rfl⟩ := fldSlice Try.underlying50 t2
    obtain ⟨eA, en, ec, rfl⟩ := fldSlice Try.underlying51 t3
    obtain ⟨d2, p2⟩ := y2
    obtain ⟨d3, p3⟩ := y3
    obtain ⟨sm, hsm, _, _⟩ := open_structsQ (sz := 5) Try.underlying50 Try.underlying55 (by kernel_rfl) (by kernel_rfl) rfl (by omega) (decSmp Try.underlying3 Try.underlying3 Try.underlying3 Try.underlying3 Try.underlying4) t2
    obtain ⟨ed, hed, _, _⟩ := open_structsQ (good := ok2) (en := e2) (sz := 2) Try.underlying51 Try.underlying95 (by kernel_rfl) (by kernel_rfl) rfl (by omega) (fun cs n hl hd => by
      obtain ⟨v0, y0, g0, t0⟩ := hd 0 _ rfl
      obtain ⟨v1, y1, g1, t1⟩ := hd 1 _ rfl
      obtain ⟨x0, rfl, b0⟩ := fldInt Try.underlying3 t0
      obtain ⟨x1, rfl, b1⟩ := fldInt Try.underlying3 t1
      match cs, hl with
      | [c0, c1], _ =>
        simp at g0 g1
        exact ⟨(x0, x1), ⟨b0, b1⟩, by rw [g0, g1]⟩) t3
    match cs, hl with
    | [c0, c1, c2, c3], _ =>
      simp at g0 g1 g2 g3
      exact ⟨(⟨nm, x1, sA, sn, sc, eA, en, ec⟩, ⟨nm, x1, sm, ed⟩), ⟨⟨rfl, rfl, hsm, hed⟩, hnm⟩, by rw [g0, g1, g2, g3]⟩) h
  have hl := h1.len
  refine ⟨l.map Prod.fst, l.map Prod.snd, ⟨At.map1 (en := fun q => eTk q.1) Prod.fst (fun _ => rfl) h1, by simpa using hl, fun i hi => ?_⟩, fun i hi => ?_⟩
  · have hil : i < l.length := by omega
    have := (h2 (l[i]'hil) (List.getElem_mem hil)).1
    simp only [List.getD_eq_getElem?_getD, List.getElem?_map, List.getElem?_eq_getElem hil, Option.map_some, Option.getD_some]
    exact this
  · rw [List.length_map] at hi
    have := (h2 (l[i]'hi) (List.getElem_mem hi)).2
    simp only [List.getD_eq_getElem?_getD, List.getElem?_map, List.getElem?_eq_getElem hi, Option.map_some, Option.getD_some]
    exact this
set_option maxRecDepth 100000 in
theorem open_film {v : Value} {d : DataW H} {p : List MemPlace} (hv : Value.okWide Try.prog W .any base 24 v) (h : DataW.Trod enc Try.prog W 0 (fun _ => true) true 24 v d p) :
    ∃ sc A n c hs T, v = .agg #[.int .i64 sc, .slice A n c] ∧ TksAt W A n c hs T ∧ nmF T ∧ (-9223372036854775808 ≤ sc ∧ sc ≤ 9223372036854775807) := by
  obtain ⟨v0, v1, y0, y1, n, rfl, _, _, h0, h1⟩ := open_agg2 Try.underlying24 (by kernel_rfl) (by kernel_rfl) hv h
  obtain ⟨x0, rfl, b0⟩ := fldInt Try.underlying3 h0
  obtain ⟨A, m, c, rfl⟩ := fldSlice Try.underlying22 h1
  obtain ⟨hs, T, h2, h3⟩ := open_tracks h1
  exact ⟨x0, A, m, c, hs, T, rfl, h2, h3, b0⟩
set_option maxRecDepth 100000 in
theorem open_datas {v : Value} {d : DataW H} {p : List MemPlace} (hv : Value.okWide Try.prog W .any base 25 v) (h : DataW.Trod enc Try.prog W 0 (fun _ => true) true 25 v d p) :
    ∃ A n c es D, v = .slice A n c ∧ DtsAt W A n c es D := by
  obtain ⟨A, n, c, rfl⟩ := okWide_slice Try.underlying25 hv
  obtain ⟨fuel, hf⟩ := h
  obtain ⟨l, h1, h2, _⟩ := open_onesQ (α := (Option Addr × Nat × Nat) × List UInt8) (en := fun x => eB1 x.1) (good := fun x => At W 1 e8 x.1.1 x.1.2.1 x.1.2.2 x.2) Try.underlying25 (by kernel_rfl)
    (fun v n y hy => by
      obtain ⟨A, n, c, rfl⟩ := fldSlice Try.underlying26 hy
      obtain ⟨d, p⟩ := y
      obtain ⟨l, g1, _⟩ := open_bytesQ Try.underlying26 Try.underlying5 (by kernel_rfl) hy
      exact ⟨((A, n, c), l), g1, rfl⟩) (by simpa [Value.cells] using hf)
  have hl := h1.len
  refine ⟨A, n, c, l.map Prod.fst, l.map Prod.snd, rfl, At.map1 (en := fun x => eB1 x.1) Prod.fst (fun _ => rfl) h1, by simpa using hl, fun i hi => ?_⟩
  have hil : i < l.length := by omega
  have := h2 (l[i]'hil) (List.getElem_mem hil)
  simp only [List.getD_eq_getElem?_getD, List.getElem?_map, List.getElem?_eq_getElem hil, Option.map_some, Option.getD_some]
  exact this
end
end Go.Proofs.Ytlonhkjplijlcaa
