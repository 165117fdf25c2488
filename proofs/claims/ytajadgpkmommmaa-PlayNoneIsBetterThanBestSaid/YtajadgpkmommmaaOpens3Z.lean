/- Arguments that are slices of elements of whatever type, read as lists. Conditions as stated. -/
import Derived.Test.YtajadgpkmommmaaLawG
import Derived.Test.YtajadgpkmommmaaPairs
import Derived.Lib.SmallJoins
import Derived.Deep.Slices
import Derived.Deep.Fields
import Derived.Test.YtajadgpkmommmaaRows2
import Derived.Test.YtajadgpkmommmaaFilmP
import Derived.Test.YtajadgpkmommmaaFilmB
namespace Go.Proofs.Ytajadgpkmommmaa
open Go.ChangeShapes Go.WideShapes Go.ChangeAt Go.RowKit Go.Joins Go.Deep

theorem wf_i64 {x : Int} (h : (Lit.int .i64 x).wf = true) : -9223372036854775808 ≤ x ∧ x ≤ 9223372036854775807 := by
  simp [Lit.wf, IntKind.min, IntKind.max, IntKind.signed, IntKind.bits] at h
  omega
/-- A list out of its elements' cells. -/
theorem At.of_key {α : Type} {w : World} {sz n c : Nat} {enc : α → List Value} {good : α → Prop} {b off : Nat} (hnc : n ≤ c) (hm : c ≤ maxLen)
    (key : ∀ i, i < n → ∃ x, good x ∧ ∀ (j : Nat) (u : Value), (enc x)[j]? = some u → w.cell? ⟨b, off + i * sz + j, none⟩ = some u) :
    ∃ l, At w sz enc (some ⟨b, off, none⟩) n c l ∧ ∀ x ∈ l, good x := by
  have h : ∀ m, m ≤ n → ∃ l : List α, l.length = m ∧ (∀ x ∈ l, good x) ∧ ∀ (k : Nat) (x : α), l[k]? = some x → ∀ (j : Nat) (u : Value), (enc x)[j]? = some u → w.cell? ⟨b, off + k * sz + j, none⟩ = some u := by
    intro m
    induction m with
    | zero => exact fun _ => ⟨[], rfl, fun x hx => by simp at hx, fun k x hx => by simp at hx⟩
    | succ m ih =>
      intro hmn
      obtain ⟨l, h1, h2, h3⟩ := ih (by omega)
      obtain ⟨x, hx, hc⟩ := key m (by omega)
      refine ⟨l ++ [x], by simp [h1], fun y hy => ?_, fun k y hy => ?_⟩
      · rcases List.mem_append.1 hy with h | h
        · exact h2 y h
        · simp at h; subst h; exact hx
      · by_cases hk : k < l.length
        · rw [List.getElem?_append_left hk] at hy
          exact h3 k y hy
        · have hlt : k < (l ++ [x]).length := (List.getElem?_eq_some_iff.1 hy).1
          simp at hlt
          obtain rfl : k = l.length := by omega
          simp at hy; subst hy
          rw [h1]; exact hc
  obtain ⟨l, h1, h2, h3⟩ := h n (Nat.le_refl _)
  exact ⟨l, ⟨h1, hnc, hm, fun h => (by cases h), fun k x hx => ⟨b, off, rfl, fun j u hu => h3 k x hx j u hu⟩⟩, h2⟩
section
variable {H : Type} {enc : TypeId × Value → H} {P : Program}
/-- An argument that is a slice of structs: dec reads one. -/
theorem open_structsQ {α : Type} {en : α → List Value} {good : α → Prop} {sz : Nat} {t e : TypeId} {fs : Array Field} (hts : P.underlying t = some (.slice e)) (hte : P.underlying e = some (.struct fs))
    (hone : oneCellFields P fs = true) (hC : P.cellsOf e = sz) (hfs : fs.size = sz) (hz : 0 < sz) {W : World}
    (dec : ∀ (cs : List Value) (n : Nat), cs.length = sz → (∀ (j : Nat) (f : Field), fs[j]? = some f → ∃ v y, cs[j]? = some v ∧ DataW.trod enc P W 0 (fun _ => true) true n f.type [v] = some y) → ∃ x : α, good x ∧ en x = cs)
    {A : Option Addr} {n c fuel : Nat} {d : DataW H} {p : List MemPlace} (hf : DataW.trod enc P W 0 (fun _ => true) true fuel t [.slice A n c] = some (d, p)) :
    ∃ l, At W sz en A n c l ∧ (∀ x ∈ l, good x) ∧ Takes d c := by
  rcases open_slice hts hf with ⟨hcs, hx⟩ | ⟨a, len, cap, m, k, D, Pl, hcs, _, hl, hm, hmm, hx, hi⟩
  · simp at hcs
    obtain ⟨rfl, rfl, rfl⟩ := hcs
    simp only [Prod.mk.injEq] at hx
    exact ⟨[], At.nil _ _ _, fun x hx => by simp at hx, .inl ⟨hx.1, rfl⟩⟩
  · simp at hcs
    obtain ⟨rfl, rfl, rfl⟩ := hcs
    simp only [Prod.mk.injEq] at hx
    simp only [if_true] at hmm
    subst hmm
    have hT : Takes d m := .inr ⟨_, _, hx.1, by simp; omega⟩
    rcases Nat.eq_zero_or_pos m with h0 | h0
    · subst h0
      obtain rfl : n = 0 := by omega
      exact ⟨[], ⟨rfl, Nat.le_refl _, hm, fun h => (by cases h), fun k x hx => by simp at hx⟩, fun x hx => by simp at hx, hT⟩
    · have hsz0 : ∀ i, i < m → ∃ cs', (∀ j, j < sz → W.cell? ((a.add (i * sz)).add j) = cs'[j]?) ∧ cs'.length = sz ∧ ∃ x, good x ∧ en x = cs' := by
        intro i him
        obtain ⟨cs', hc, ht'⟩ := hi i him
        rw [hC] at hc
        obtain ⟨_, hcl, hat⟩ := World.cells?_some hc
        obtain ⟨ys, n', hn', hy, hlen, hyl, hff⟩ := DataW.trod_struct hte ht'
        refine ⟨cs', hat, hcl, dec cs' n' hcl fun j f hj => ?_⟩
        obtain ⟨ho, hk⟩ := hone_of hone j f hj
        have hjl : j < fs.size := (Array.getElem?_eq_some_iff.1 hj).1
        have h1 := hff j f hj
        rw [ho, hk] at h1
        have h2 : (cs'.drop j).take 1 = [cs'[j]'(by omega)] := by
          rw [List.drop_eq_getElem_cons (by omega)]; rfl
        rw [h2] at h1
        exact ⟨_, _, List.getElem?_eq_getElem (by omega), h1.trans (List.getElem?_eq_getElem (by omega))⟩
      obtain ⟨b, off, spot⟩ := a
      have hs : spot = none := by
        obtain ⟨cs', h1, h2, _⟩ := hsz0 0 h0
        have h3 := h1 0 hz
        rw [List.getElem?_eq_getElem (by omega)] at h3
        have h4 : (((⟨b, off, spot⟩ : Addr).add (0 * sz)).add 0) = ⟨b, off, spot⟩ := by rw [Nat.zero_mul]; unfold Addr.add; rfl
        rw [h4] at h3
        exact cell_spot h3
      subst hs
      obtain ⟨l, h1, h2⟩ := At.of_key (w := W) (sz := sz) (enc := en) (good := good) (b := b) (off := off) hl hm (fun i hin => by
        obtain ⟨cs', g1, g2, x, hx, he⟩ := hsz0 i (by omega)
        refine ⟨x, hx, fun j u hu => ?_⟩
        have hj : j < sz := by
          have := (List.getElem?_eq_some_iff.1 hu).1
          rw [he] at this; omega
        have := g1 j hj
        rw [add_of_add, Addr.add_lit] at this
        rw [show off + i * sz + j = off + (i * sz + j) by omega, this, ← he, hu])
      exact ⟨l, h1, h2, hT⟩
theorem open_structsP {α : Type} {en : α → List Value} {good : α → Prop} {sz : Nat} {t e : TypeId} {fs : Array Field} (hts : P.underlying t = some (.slice e)) (hte : P.underlying e = some (.struct fs))
    (hone : oneCellFields P fs = true) (hC : P.cellsOf e = sz) (hfs : fs.size = sz) (hz : 0 < sz) {W : World}
    (dec : ∀ (cs : List Value) (n : Nat), cs.length = sz → (∀ (j : Nat) (f : Field), fs[j]? = some f → ∃ v y, cs[j]? = some v ∧ DataW.trod enc P W 0 (fun _ => true) true n f.type [v] = some y) → ∃ x : α, good x ∧ en x = cs)
    {base : Nat} {v : Value} {d : DataW H} {p : List MemPlace} (hv : Value.okWide P W .any base t v) (h : DataW.Trod enc P W 0 (fun _ => true) true t v d p) :
    ∃ A n c l, v = .slice A n c ∧ At W sz en A n c l ∧ (∀ x ∈ l, good x) ∧ Takes d c := by
  obtain ⟨A, n, c, rfl⟩ := okWide_slice hts hv
  obtain ⟨fuel, hf⟩ := h
  obtain ⟨l, h1, h2, h3⟩ := open_structsQ hts hte hone hC hfs hz dec (by simpa [Value.cells] using hf)
  exact ⟨A, n, c, l, rfl, h1, h2, h3⟩
/-- Does an int hold both numbers? -/
def ok2 (x : Int × Int) : Prop := (-9223372036854775808 ≤ x.1 ∧ x.1 ≤ 9223372036854775807) ∧ (-9223372036854775808 ≤ x.2 ∧ x.2 ≤ 9223372036854775807)
theorem fldInt {W : World} {t : TypeId} {n : Nat} {v : Value} {y : DataW H × List MemPlace} (ht : P.underlying t = some (.int .i64)) (h : DataW.trod enc P W 0 (fun _ => true) true n t [v] = some y) :
    ∃ x, v = .int .i64 x ∧ (-9223372036854775808 ≤ x ∧ x ≤ 9223372036854775807) := by
  obtain ⟨x, hv, _, hw⟩ := DataW.trod_int ht h
  injection hv with hv _
  exact ⟨x, hv, wf_i64 hw⟩
theorem open_pairsP {t e : TypeId} {f0 f1 : Field} (hts : P.underlying t = some (.slice e)) (hte : P.underlying e = some (.struct #[f0, f1])) (hone : oneCellFields P #[f0, f1] = true) (hC : P.cellsOf e = 2)
    (h0 : P.underlying f0.type = some (.int .i64)) (h1 : P.underlying f1.type = some (.int .i64)) {W : World} {base : Nat} {v : Value} {d : DataW H} {p : List MemPlace} (hv : Value.okWide P W .any base t v)
    (h : DataW.Trod enc P W 0 (fun _ => true) true t v d p) : ∃ A n c l, v = .slice A n c ∧ At W 2 e2 A n c l ∧ (∀ x ∈ l, ok2 x) ∧ Takes d c := by
  refine open_structsP hts hte hone hC rfl (by omega) (fun cs n hl hd => ?_) hv h
  obtain ⟨v0, y0, g0, t0⟩ := hd 0 f0 rfl
  obtain ⟨v1, y1, g1, t1⟩ := hd 1 f1 rfl
  obtain ⟨x0, rfl, b0⟩ := fldInt h0 t0
  obtain ⟨x1, rfl, b1⟩ := fldInt h1 t1
  match cs, hl with
  | [c0, c1], _ =>
    simp at g0 g1
    exact ⟨(x0, x1), ⟨b0, b1⟩, by rw [g0, g1]⟩
/-- An argument of numbers. -/
theorem open_intsQ {t e : TypeId} (hts : P.underlying t = some (.slice e)) (hte : P.underlying e = some (.int .i64)) (htc : P.cellsOf e = 1) {W : World} {A : Option Addr} {n c fuel : Nat} {d : DataW H} {p : List MemPlace}
    (hf : DataW.trod enc P W 0 (fun _ => true) true fuel t [.slice A n c] = some (d, p)) : ∃ l : List Int, At W 1 e64 A n c l ∧ (∀ x ∈ l, -9223372036854775808 ≤ x ∧ x ≤ 9223372036854775807) ∧ Takes d c := by
  rcases open_ints hts hte htc hf with ⟨hcs, hx⟩ | ⟨a, len, cap, zs, hcs, _, hl, hm, hz, hx, hcell, hwz⟩
  · simp at hcs
    obtain ⟨rfl, rfl, rfl⟩ := hcs
    simp only [Prod.mk.injEq] at hx
    exact ⟨[], At.nil _ _ _, fun x hx => by simp at hx, .inl ⟨hx.1, rfl⟩⟩
  · simp at hcs
    obtain ⟨rfl, rfl, rfl⟩ := hcs
    simp only [Prod.mk.injEq] at hx
    simp only [if_true] at hz
    refine ⟨zs.take n, ⟨by simp; omega, hl, hm, fun h => (by cases h), fun k x hxx => ?_⟩, fun x hx => wf_i64 (hwz x (List.mem_of_mem_take hx)), .inr ⟨_, _, hx.1, by simp [lits]; omega⟩⟩
    have hk : k < n := by
      have := (List.getElem?_eq_some_iff.1 hxx).1
      simp at this; omega
    have hc := hcell k (by omega)
    obtain ⟨b, off, spot⟩ := a
    have hs : spot = none := by
      have h3 : ((⟨b, off, spot⟩ : Addr).add 0) = ⟨b, off, spot⟩ := by unfold Addr.add; rfl
      have h4 := hcell 0 (by omega)
      rw [h3] at h4
      exact cell_spot h4
    subst hs
    refine ⟨b, off, rfl, fun j u hu => ?_⟩
    match j, hu with
    | j + 1, hu => simp at hu
    | 0, hu =>
      simp at hu; subst hu
      have hkz : k < zs.length := by omega
      have hx2 : x = zs[k] := by
        rw [List.getElem?_take_of_lt hk, List.getElem?_eq_getElem hkz] at hxx
        simpa using hxx.symm
      rw [Addr.add_lit] at hc
      rw [show off + k * 1 + 0 = off + k by omega, hc, hx2]
      simp [List.getD, List.getElem?_eq_getElem hkz]
theorem open_intsP {t e : TypeId} (hts : P.underlying t = some (.slice e)) (hte : P.underlying e = some (.int .i64)) (htc : P.cellsOf e = 1) {W : World} {base : Nat} {v : Value} {d : DataW H} {p : List MemPlace} (hv : Value.okWide P W .any base t v)
    (h : DataW.Trod enc P W 0 (fun _ => true) true t v d p) : ∃ A n c, ∃ l : List Int, v = .slice A n c ∧ At W 1 e64 A n c l ∧ (∀ x ∈ l, -9223372036854775808 ≤ x ∧ x ≤ 9223372036854775807) ∧ Takes d c := by
  obtain ⟨A, n, c, rfl⟩ := okWide_slice hts hv
  obtain ⟨fuel, hf⟩ := h
  obtain ⟨l, h1, h2, h3⟩ := open_intsQ hts hte htc (by simpa [Value.cells] using hf)
  exact ⟨A, n, c, l, rfl, h1, h2, h3⟩
end
end Go.Proofs.Ytajadgpkmommmaa
namespace Go.Proofs.Ytajadgpkmommmaa
open Go.ChangeShapes Go.WideShapes Go.ChangeAt Go.RowKit Go.Joins Go.Deep

section
variable {H : Type} {enc : TypeId × Value → H} {P : Program}
theorem open_onesQ {α : Type} {en : α → List Value} {good : α → Prop} {t e : TypeId} (hts : P.underlying t = some (.slice e)) (hC : P.cellsOf e = 1) {W : World}
    (dec : ∀ (v : Value) (n : Nat) (y : DataW H × List MemPlace), DataW.trod enc P W 0 (fun _ => true) true n e [v] = some y → ∃ x : α, good x ∧ en x = [v])
    {A : Option Addr} {n c fuel : Nat} {d : DataW H} {p : List MemPlace} (hf : DataW.trod enc P W 0 (fun _ => true) true fuel t [.slice A n c] = some (d, p)) :
    ∃ l, At W 1 en A n c l ∧ (∀ x ∈ l, good x) ∧ Takes d c := by
  rcases open_slice hts hf with ⟨hcs, hx⟩ | ⟨a, len, cap, m, k, D, Pl, hcs, _, hl, hm, hmm, hx, hi⟩
  · simp at hcs
    obtain ⟨rfl, rfl, rfl⟩ := hcs
    simp only [Prod.mk.injEq] at hx
    exact ⟨[], At.nil _ _ _, fun x hx => by simp at hx, .inl ⟨hx.1, rfl⟩⟩
  · simp at hcs
    obtain ⟨rfl, rfl, rfl⟩ := hcs
    simp only [Prod.mk.injEq] at hx
    simp only [if_true] at hmm
    subst hmm
    have hT : Takes d m := .inr ⟨_, _, hx.1, by simp; omega⟩
    rcases Nat.eq_zero_or_pos m with h0 | h0
    · subst h0
      obtain rfl : n = 0 := by omega
      exact ⟨[], ⟨rfl, Nat.le_refl _, hm, fun h => (by cases h), fun k x hx => by simp at hx⟩, fun x hx => by simp at hx, hT⟩
    · have hsz0 : ∀ i, i < m → ∃ u, W.cell? ((a.add (i * 1)).add 0) = some u ∧ ∃ x, good x ∧ en x = [u] := by
        intro i him
        obtain ⟨cs', hc, ht'⟩ := hi i him
        rw [hC] at hc
        obtain ⟨_, hcl, hat⟩ := World.cells?_some hc
        match cs', hcl with
        | [u], _ => exact ⟨u, by have := hat 0 (by omega); simpa using this, dec u _ _ ht'⟩
      obtain ⟨b, off, spot⟩ := a
      have hs : spot = none := by
        obtain ⟨u, h1, _⟩ := hsz0 0 h0
        have h4 : (((⟨b, off, spot⟩ : Addr).add (0 * 1)).add 0) = ⟨b, off, spot⟩ := by rw [Nat.zero_mul]; unfold Addr.add; rfl
        rw [h4] at h1
        exact cell_spot h1
      subst hs
      obtain ⟨l, h1, h2⟩ := At.of_key (w := W) (sz := 1) (enc := en) (good := good) (b := b) (off := off) hl hm (fun i hin => by
        obtain ⟨u, g1, x, hx, he⟩ := hsz0 i (by omega)
        refine ⟨x, hx, fun j v hu => ?_⟩
        rw [he] at hu
        match j, hu with
        | 0, hu =>
          simp at hu; subst hu
          rw [add_of_add, Addr.add_lit] at g1
          rw [show off + i * 1 + 0 = off + (i * 1 + 0) by omega]
          exact g1
        | j + 1, hu => simp at hu)
      exact ⟨l, h1, h2, hT⟩
theorem fldIntsP {t e : TypeId} (hts : P.underlying t = some (.slice e)) (hte : P.underlying e = some (.int .i64)) (htc : P.cellsOf e = 1) {W : World} {n : Nat} {v : Value} {y : DataW H × List MemPlace}
    (h : DataW.trod enc P W 0 (fun _ => true) true n t [v] = some y) : ∃ A n c, ∃ l : List Int, v = .slice A n c ∧ At W 1 e64 A n c l ∧ (∀ x ∈ l, -9223372036854775808 ≤ x ∧ x ≤ 9223372036854775807) ∧ Takes y.1 c := by
  have hv : ∃ A n c, v = .slice A n c := by
    rcases open_ints hts hte htc h with ⟨hcs, _⟩ | ⟨a, len, cap, zs, hcs, _⟩
    · injection hcs with hcs _; exact ⟨_, _, _, hcs⟩
    · injection hcs with hcs _; exact ⟨_, _, _, hcs⟩
  obtain ⟨A, k, c, rfl⟩ := hv
  obtain ⟨d, p⟩ := y
  obtain ⟨l, h1, h2, h3⟩ := open_intsQ hts hte htc h
  exact ⟨A, k, c, l, rfl, h1, h2, h3⟩
theorem fldSlice {t e : TypeId} (hts : P.underlying t = some (.slice e)) {W : World} {n : Nat} {v : Value} {y : DataW H × List MemPlace}
    (h : DataW.trod enc P W 0 (fun _ => true) true n t [v] = some y) : ∃ A n c, v = .slice A n c := by
  rcases open_slice hts h with ⟨hcs, _⟩ | ⟨a, len, cap, m, k, D, Pl, hcs, _⟩
  · injection hcs with hcs _; exact ⟨_, _, _, hcs⟩
  · injection hcs with hcs _; exact ⟨_, _, _, hcs⟩
theorem At.map1 {α β : Type} {w : World} {sz : Nat} {en : α → List Value} {em : β → List Value} {A : Option Addr} {n c : Nat} {l : List α} (f : α → β) (he : ∀ x, en x = em (f x)) (h : At w sz en A n c l) : At w sz em A n c (l.map f) :=
  ⟨by have := h.len; simpa using this, h.le, h.max, h.none_, fun k x hx => by
    rw [List.getElem?_map] at hx
    cases hl : l[k]? with
    | none => rw [hl] at hx; cases hx
    | some y =>
      rw [hl] at hx
      simp at hx; subst hx
      obtain ⟨b, off, e, hc⟩ := h.cells k y hl
      exact ⟨b, off, e, fun j u hu => hc j u (by rw [he]; exact hu)⟩⟩
theorem fldRowsP {t e q : TypeId} (hts : P.underlying t = some (.slice e)) (hC : P.cellsOf e = 1) (hte : P.underlying e = some (.slice q)) (htq : P.underlying q = some (.int .i64)) (hq : P.cellsOf q = 1) {W : World} {n : Nat} {v : Value} {y : DataW H × List MemPlace}
    (h : DataW.trod enc P W 0 (fun _ => true) true n t [v] = some y) : ∃ A n c, ∃ S : List (List Int), v = .slice A n c ∧ Rws W A n c S ∧ ∀ l ∈ S, ∀ x ∈ l, -9223372036854775808 ≤ x ∧ x ≤ 9223372036854775807 := by
  obtain ⟨A, k, c, rfl⟩ := fldSlice hts h
  obtain ⟨d, p⟩ := y
  obtain ⟨l, h1, h2, _⟩ := open_onesQ (α := (Option Addr × Nat × Nat) × List Int) (en := fun x => eH x.1) (good := fun x => At W 1 e64 x.1.1 x.1.2.1 x.1.2.2 x.2 ∧ ∀ z ∈ x.2, -9223372036854775808 ≤ z ∧ z ≤ 9223372036854775807) hts hC
    (fun v n y hy => by
      obtain ⟨A, n, c, l, rfl, g1, g2, _⟩ := fldIntsP hte htq hq hy
      exact ⟨((A, n, c), l), ⟨g1, g2⟩, rfl⟩) h
  have h2 : ∀ x ∈ l, At W 1 e64 x.1.1 x.1.2.1 x.1.2.2 x.2 ∧ ∀ z ∈ x.2, -9223372036854775808 ≤ z ∧ z ≤ 9223372036854775807 := h2
  have hl := h1.len
  have hm : At W 1 eH A k c (l.map Prod.fst) := At.map1 (en := fun x => eH x.1) Prod.fst (fun _ => rfl) h1
  refine ⟨A, k, c, l.map (·.2), rfl, ⟨by simpa using hl, l.map Prod.fst, hm, fun i hi => ?_⟩, fun r hr => ?_⟩
  · have hil : i < l.length := by omega
    have hx := (h2 (l[i]'hil) (List.getElem_mem hil)).1
    simp only [List.getD, List.getElem?_map, List.getElem?_eq_getElem hil, Option.map_some, Option.getD_some]
    exact hx
  · obtain ⟨x, hx, rfl⟩ := List.mem_map.1 hr
    exact (h2 x hx).2
end
end Go.Proofs.Ytajadgpkmommmaa
namespace Go.Proofs.Ytajadgpkmommmaa
open Go.ChangeShapes Go.WideShapes Go.ChangeAt Go.RowKit Go.Joins Go.Deep
theorem cellsInt : Try.prog.cellsOf 3 = 1 := by kernel_rfl
theorem cellsInts : Try.prog.cellsOf 22 = 1 := by kernel_rfl
theorem cellsWts : Try.prog.cellsOf 28 = 3 := by kernel_rfl
section
variable {H : Type} {enc : TypeId × Value → H} {W : World} {base : Nat}
set_option maxRecDepth 100000 in
theorem open_show {v : Value} {d : DataW H} {p : List MemPlace} (hv : Value.okWide Try.prog W .any base 25 v) (h : DataW.Trod enc Try.prog W 0 (fun _ => true) true 25 v d p) :
    ∃ lA ln lc sA sn sc qA qn qc L S Q, v = shV lA ln lc sA sn sc qA qn qc ∧ Shw W lA ln lc sA sn sc qA qn qc L S Q := by
  obtain ⟨v0, v1, v2, y0, y1, y2, n, rfl, _, _, h0, h1, h2⟩ := open_agg3 Try.underlying25 (by kernel_rfl) (by kernel_rfl) hv h
  obtain ⟨lA, ln, lc, L, rfl, hL, _, _⟩ := fldIntsP Try.underlying22 Try.underlying3 cellsInt h0
  obtain ⟨sA, sn, sc, S, rfl, hS, _⟩ := fldRowsP Try.underlying23 cellsInts Try.underlying22 Try.underlying3 cellsInt h1
  obtain ⟨qA, qn, qc, Q, rfl, hQ, _, _⟩ := fldIntsP Try.underlying22 Try.underlying3 cellsInt h2
  exact ⟨lA, ln, lc, sA, sn, sc, qA, qn, qc, L, S, Q, rfl, hL, hS, hQ⟩
theorem fldIntC {c : Nat} {t : TypeId} {n : Nat} {v : Value} {rest : List Value} {y : DataW H × List MemPlace} (ht : Try.prog.underlying t = some (.int .i64)) (hc : Try.prog.cellsOf t = 1) {cs : List Value} (hd : cs.drop c = v :: rest)
    (h : DataW.trod enc Try.prog W 0 (fun _ => true) true n t ((cs.drop c).take (Try.prog.cellsOf t)) = some y) : ∃ x, v = .int .i64 x := by
  rw [hc, hd] at h
  obtain ⟨x, rfl, _⟩ := fldInt ht h
  exact ⟨x, rfl⟩
theorem fldSub {c k : Nat} {t : TypeId} {n : Nat} {vs : List Value} {y : DataW H × List MemPlace} (hc : Try.prog.cellsOf t = k) {cs : List Value} (hd : (cs.drop c).take k = vs)
    (h : DataW.trod enc Try.prog W 0 (fun _ => true) true n t ((cs.drop c).take (Try.prog.cellsOf t)) = some y) : DataW.trod enc Try.prog W 0 (fun _ => true) true n t vs = some y := by
  rw [hc, hd] at h; exact h
set_option maxRecDepth 100000 in
set_option maxHeartbeats 1000000 in
theorem open_weights {v : Value} {d : DataW H} {p : List MemPlace} (hv : Value.okWide Try.prog W .any base 28 v) (h : DataW.Trod enc Try.prog W 0 (fun _ => true) true 28 v d p) :
    ∃ x y z, v = .agg #[.int .i64 x, .int .i64 y, .int .i64 z] := by
  obtain ⟨v0, v1, v2, y0, y1, y2, n, rfl, _, _, h0, h1, h2⟩ := open_agg3 Try.underlying28 (by kernel_rfl) (by kernel_rfl) hv h
  obtain ⟨x, rfl, _⟩ := fldInt Try.underlying3 h0
  obtain ⟨y, rfl, _⟩ := fldInt Try.underlying3 h1
  obtain ⟨z, rfl, _⟩ := fldInt Try.underlying3 h2
  exact ⟨x, y, z, rfl⟩
set_option maxRecDepth 100000 in
set_option maxHeartbeats 1000000 in
theorem open_player {v : Value} {d : DataW H} {p : List MemPlace} (hv : Value.okWide Try.prog W .any base 30 v) (h : DataW.Trod enc Try.prog W 0 (fun _ => true) true 30 v d p) :
    ∃ a0 a1 a2 a3 a4 a5 a6 a7 a8 a9 a10 a11 a12 a13, v = plV a0 a1 a2 a3 a4 a5 a6 a7 a8 a9 a10 a11 a12 a13 := by
  obtain ⟨cs, rfl, hsz⟩ := okWide_struct Try.underlying30 hv
  obtain ⟨l⟩ := cs
  have hC : Try.prog.cellsOf 30 = 14 := by kernel_rfl
  match l, hsz.trans hC with
  | [c0, c1, c2, c3, c4, c5, c6, c7, c8, c9, c10, c11, c12, c13], _ =>
    obtain ⟨fuel, hf⟩ := h
    obtain ⟨xs, n, _, hx, _, hlen, hg⟩ := DataW.trod_struct Try.underlying30 hf
    match xs, hlen with
    | [y0, y1, y2, y3, y4, y5, y6, y7, y8, y9, y10, y11], _ =>
      obtain ⟨x0, rfl⟩ := fldIntC (c := 0) Try.underlying3 cellsInt rfl (hg 0 _ rfl)
      obtain ⟨x1, rfl⟩ := fldIntC (c := 1) Try.underlying3 cellsInt rfl (hg 1 _ rfl)
      obtain ⟨x2, rfl⟩ := fldIntC (c := 2) Try.underlying3 cellsInt rfl (hg 2 _ rfl)
      obtain ⟨x3, rfl⟩ := fldIntC (c := 3) Try.underlying3 cellsInt rfl (hg 3 _ rfl)
      obtain ⟨x4, rfl⟩ := fldIntC (c := 4) Try.underlying3 cellsInt rfl (hg 4 _ rfl)
      obtain ⟨x5, rfl⟩ := fldIntC (c := 5) Try.underlying3 cellsInt rfl (hg 5 _ rfl)
      obtain ⟨x6, rfl⟩ := fldIntC (c := 6) Try.underlying3 cellsInt rfl (hg 6 _ rfl)
      obtain ⟨x7, rfl⟩ := fldIntC (c := 7) Try.underlying3 cellsInt rfl (hg 7 _ rfl)
      obtain ⟨x8, rfl⟩ := fldIntC (c := 8) Try.underlying3 cellsInt rfl (hg 8 _ rfl)
      obtain ⟨x9, rfl⟩ := fldIntC (c := 9) Try.underlying3 cellsInt rfl (hg 9 _ rfl)
      obtain ⟨x10, rfl⟩ := fldIntC (c := 10) Try.underlying3 cellsInt rfl (hg 10 _ rfl)
      have h11 := fldSub (t := 28) (c := 11) (vs := [c11, c12, c13]) cellsWts rfl (hg 11 _ rfl)
      obtain ⟨zs, m, hm, hz, _, hzl, hzg⟩ := DataW.trod_struct Try.underlying28 h11
      match zs, hzl with
      | [z0, z1, z2], _ =>
        obtain ⟨x11, rfl⟩ := fldIntC (c := 0) Try.underlying3 cellsInt rfl (hzg 0 _ rfl)
        obtain ⟨x12, rfl⟩ := fldIntC (c := 1) Try.underlying3 cellsInt rfl (hzg 1 _ rfl)
        obtain ⟨x13, rfl⟩ := fldIntC (c := 2) Try.underlying3 cellsInt rfl (hzg 2 _ rfl)
        exact ⟨x0, x1, x2, x3, x4, x5, x6, x7, x8, x9, x10, x11, x12, x13, rfl⟩
end
end Go.Proofs.Ytajadgpkmommmaa
namespace Go.Proofs.Ytajadgpkmommmaa
open Go.ChangeShapes Go.WideShapes Go.ChangeAt Go.RowKit Go.Joins
section
variable {H : Type} {enc : TypeId × Value → H} {W : World} {base : Nat}
set_option maxRecDepth 100000 in
theorem open_flows {v : Value} {d : DataW H} {p : List MemPlace} (hv : Value.okWide Try.prog W .any base 26 v) (h : DataW.Trod enc Try.prog W 0 (fun _ => true) true 26 v d p) :
    ∃ A n c l, v = .slice A n c ∧ At W 2 e2 A n c l ∧ (∀ x ∈ l, ok2 x) ∧ Takes d c :=
  open_pairsP Try.underlying26 Try.underlying61 (by kernel_rfl) (by kernel_rfl) Try.underlying3 Try.underlying3 hv h
end
end Go.Proofs.Ytajadgpkmommmaa
namespace Go.Proofs.Ytajadgpkmommmaa
open Go.ChangeShapes Go.WideShapes Go.ChangeAt Go.RowKit Go.Joins Go.Deep

section
variable {H : Type} {enc : TypeId × Value → H} {P : Program}
/-- An argument that is a slice: dec reads an element of sz cells. -/
theorem open_elemsQ {α : Type} {en : α → List Value} {good : α → Prop} {sz : Nat} {t e : TypeId} (hts : P.underlying t = some (.slice e)) (hC : P.cellsOf e = sz) (hz : 0 < sz) {W : World}
    (dec : ∀ (cs : List Value) (n : Nat) (y : DataW H × List MemPlace), cs.length = sz → DataW.trod enc P W 0 (fun _ => true) true n e cs = some y → ∃ x : α, good x ∧ en x = cs)
    {A : Option Addr} {n c fuel : Nat} {d : DataW H} {p : List MemPlace} (hf : DataW.trod enc P W 0 (fun _ => true) true fuel t [.slice A n c] = some (d, p)) :
    ∃ l, At W sz en A n c l ∧ (∀ x ∈ l, good x) ∧ Takes d c := by
  rcases open_slice hts hf with ⟨hcs, hx⟩ | ⟨a, len, cap, m, k, D, Pl, hcs, _, hl, hm, hmm, hx, hi⟩
  · simp at hcs
    obtain ⟨rfl, rfl, rfl⟩ := hcs
    simp only [Prod.mk.injEq] at hx
    exact ⟨[], At.nil _ _ _, fun x hx => by simp at hx, .inl ⟨hx.1, rfl⟩⟩
  · simp at hcs
    obtain ⟨rfl, rfl, rfl⟩ := hcs
    simp only [Prod.mk.injEq] at hx
    simp only [if_true] at hmm
    subst hmm
    have hT : Takes d m := .inr ⟨_, _, hx.1, by simp; omega⟩
    rcases Nat.eq_zero_or_pos m with h0 | h0
    · subst h0
      obtain rfl : n = 0 := by omega
      exact ⟨[], ⟨rfl, Nat.le_refl _, hm, fun h => (by cases h), fun k x hx => by simp at hx⟩, fun x hx => by simp at hx, hT⟩
    · have hsz0 : ∀ i, i < m → ∃ cs', (∀ j, j < sz → W.cell? ((a.add (i * sz)).add j) = cs'[j]?) ∧ cs'.length = sz ∧ ∃ x, good x ∧ en x = cs' := by
        intro i him
        obtain ⟨cs', hc, ht'⟩ := hi i him
        rw [hC] at hc
        obtain ⟨_, hcl, hat⟩ := World.cells?_some hc
        exact ⟨cs', hat, hcl, dec cs' _ _ hcl ht'⟩
      obtain ⟨b, off, spot⟩ := a
      have hs : spot = none := by
        obtain ⟨cs', h1, h2, _⟩ := hsz0 0 h0
        have h3 := h1 0 hz
        rw [List.getElem?_eq_getElem (by omega)] at h3
        have h4 : (((⟨b, off, spot⟩ : Addr).add (0 * sz)).add 0) = ⟨b, off, spot⟩ := by rw [Nat.zero_mul]; unfold Addr.add; rfl
        rw [h4] at h3
        exact cell_spot h3
      subst hs
      obtain ⟨l, h1, h2⟩ := At.of_key (w := W) (sz := sz) (enc := en) (good := good) (b := b) (off := off) hl hm (fun i hin => by
        obtain ⟨cs', g1, g2, x, hx, he⟩ := hsz0 i (by omega)
        refine ⟨x, hx, fun j u hu => ?_⟩
        have hj : j < sz := by
          have := (List.getElem?_eq_some_iff.1 hu).1
          rw [he] at this; omega
        have := g1 j hj
        rw [add_of_add, Addr.add_lit] at this
        rw [show off + i * sz + j = off + (i * sz + j) by omega, this, ← he, hu])
      exact ⟨l, h1, h2, hT⟩
theorem open_elemsP {α : Type} {en : α → List Value} {good : α → Prop} {sz : Nat} {t e : TypeId} (hts : P.underlying t = some (.slice e)) (hC : P.cellsOf e = sz) (hz : 0 < sz) {W : World}
    (dec : ∀ (cs : List Value) (n : Nat) (y : DataW H × List MemPlace), cs.length = sz → DataW.trod enc P W 0 (fun _ => true) true n e cs = some y → ∃ x : α, good x ∧ en x = cs)
    {base : Nat} {v : Value} {d : DataW H} {p : List MemPlace} (hv : Value.okWide P W .any base t v) (h : DataW.Trod enc P W 0 (fun _ => true) true t v d p) :
    ∃ A n c l, v = .slice A n c ∧ At W sz en A n c l ∧ (∀ x ∈ l, good x) ∧ Takes d c := by
  obtain ⟨A, n, c, rfl⟩ := okWide_slice hts hv
  obtain ⟨fuel, hf⟩ := h
  obtain ⟨l, h1, h2, h3⟩ := open_elemsQ hts hC hz dec (by simpa [Value.cells] using hf)
  exact ⟨A, n, c, l, rfl, h1, h2, h3⟩
/-- A field that is a slice of structs whose fields have a cell each. -/
theorem fldElems {α : Type} {en : α → List Value} {good : α → Prop} {sz : Nat} {t e : TypeId} (hts : P.underlying t = some (.slice e)) (hC : P.cellsOf e = sz) (hz : 0 < sz) {W : World}
    (dec : ∀ (cs : List Value) (n : Nat) (y : DataW H × List MemPlace), cs.length = sz → DataW.trod enc P W 0 (fun _ => true) true n e cs = some y → ∃ x : α, good x ∧ en x = cs)
    {n : Nat} {v : Value} {y : DataW H × List MemPlace} (h : DataW.trod enc P W 0 (fun _ => true) true n t [v] = some y) : ∃ A n c l, v = .slice A n c ∧ At W sz en A n c l ∧ (∀ x ∈ l, good x) := by
  have hv : ∃ A n c, v = .slice A n c := by
    rcases open_slice hts h with ⟨hcs, _⟩ | ⟨a, len, cap, m, k, D, Pl, hcs, _⟩
    · injection hcs with hcs _; exact ⟨_, _, _, hcs⟩
    · injection hcs with hcs _; exact ⟨_, _, _, hcs⟩
  obtain ⟨A, k, c, rfl⟩ := hv
  obtain ⟨d, p⟩ := y
  obtain ⟨l, h1, h2, _⟩ := open_elemsQ hts hC hz dec h
  exact ⟨A, k, c, l, rfl, h1, h2⟩
/-- What a field of a struct is, in its cells. -/
theorem fldAt {W : World} {n c : Nat} {t : TypeId} {vs : List Value} {cs : List Value} {r : Option (DataW H × List MemPlace)} (hs : (cs.drop c).take (P.cellsOf t) = vs) {off : Nat} (ho : off = c) (h : DataW.trod enc P W 0 (fun _ => true) true n t ((cs.drop off).take (P.cellsOf t)) = r) :
    DataW.trod enc P W 0 (fun _ => true) true n t vs = r := by
  subst ho; rw [hs] at h; exact h
end
section
variable {H : Type} {enc : TypeId × Value → H} {P : Program} {w : World} {base : Nat} {spare : Nat → Bool} {held : Bool}
theorem trodAll5 {t t' t2 t3 t4 : TypeId} {args : Array Value} {ds : List (DataW H)} {ps : List MemPlace} (h : DataW.TrodAll enc P w base spare held [t, t', t2, t3, t4] args.toList ds ps) :
    ∃ v v' v2 v3 v4 d d' d2 d3 d4 p p' p2 p3 p4, args = #[v, v', v2, v3, v4] ∧ ds = [d, d', d2, d3, d4] ∧ ps = p ++ p' ++ p2 ++ p3 ++ p4 ∧ DataW.Trod enc P w base spare held t v d p ∧ DataW.Trod enc P w base spare held t' v' d' p' ∧ DataW.Trod enc P w base spare held t2 v2 d2 p2 ∧ DataW.Trod enc P w base spare held t3 v3 d3 p3 ∧ DataW.Trod enc P w base spare held t4 v4 d4 p4 := by
  obtain ⟨v, vs, d, ds', p, q, hargs, rfl, rfl, hd, hrest⟩ := trodAll_cons h
  obtain ⟨v', vs', d', ds1, p', q', rfl, rfl, rfl, hd', hrest'⟩ := trodAll_cons hrest
  obtain ⟨v2, vs2, d2, ds2, p2, q2, rfl, rfl, rfl, hd2, hrest2⟩ := trodAll_cons hrest'
  obtain ⟨v3, vs3, d3, ds3, p3, q3, rfl, rfl, rfl, hd3, hrest3⟩ := trodAll_cons hrest2
  obtain ⟨v4, vs4, d4, ds4, p4, q4, rfl, rfl, rfl, hd4, hrest4⟩ := trodAll_cons hrest3
  obtain ⟨rfl, rfl, rfl⟩ := trodAll_nil hrest4
  exact ⟨v, v', v2, v3, v4, d, d', d2, d3, d4, p, p', p2, p3, p4, by cases args; simp_all, rfl, by simp, hd, hd', hd2, hd3, hd4⟩
end
end Go.Proofs.Ytajadgpkmommmaa
