/- Proved: for all samples, chunks, places and every table BoxCompactsComeBack returns true: samples that are put into a table are its samples, and a table that is made again of what it tells is not longer. Conditions: none. -/
import Derived.Test.YtkdmfkpkelnheaaOpens
import Derived.Test.YtkdmfkpkelnheaaSmpA
import Derived.Test.YtkdmfkpkelnheaaCmpT
import Derived.Test.YtkdmfkpkelnheaaTbyP
import Derived.Test.YtkdmfkpkelnheaaTabC
import Derived.Test.YtkdmfkpkelnheaaOpens2
import Derived.Test.YtkdmfkpkelnheaaLawG
import Derived.Test.YtkdmfkpkelnheaaCmpY
import Derived.Test.YtkdmfkpkelnheaaCmpV
import Derived.Test.YtkdmfkpkelnheaaExpU
import Derived.Test.YtkdmfkpkelnheaaBoxE
import Derived.Test.YtkdmfkpkelnheaaSmpB
namespace Go.Proofs.Ytkdmfkpkelnheaa
open Go.ChangeShapes Go.WideShapes Go.ChangeAt Go.RowKit Go.Joins Go.Deep

section
variable {H : Type} {enc : TypeId × Value → H} {P : Program}
/-- An argument that is a slice: dec reads an element of sz cells. -/
theorem open_elemsQ {α : Type} {en : α → List Value} {good : α → Prop} {sz : Nat} {t e : TypeId} (hts : P.underlying t = some (.slice e)) (hC : P.cellsOf e = sz) (hz : 0 < sz) {W : World}
    (dec : ∀ (cs : List Value) (n : Nat) (y : DataW H × List MemPlace), cs.length = sz → DataW.trod enc P W 0 (fun _ => true) true n e cs = some y → ∃ x : α, good x ∧ en x = cs)
    {A : Option Addr} {n c fuel : Nat} {d : DataW H} {p : List MemPlace} (hf : DataW.trod enc P W 0 (fun _ => true) true fuel t [.slice A n c] = some (d, p)) :
    ∃ l, At W sz en A n c l ∧ (∀ x ∈ l, good x) ∧ Takes d c := by
  rcases open_slice hts hf with ⟨hcs, hx⟩ | ⟨a, len, cap, m, k, D, Pl, hcs, _, hl, hm, hmm, hx, hi⟩
  · simp at hcs
    obtain ⟨rfl, rfl, rfl⟩ := hcs
    simp only [Prod.mk.injEq] at hx
    exact ⟨[], At.nil _ _ _, fun x hx => by simp at hx, .inl ⟨hx.1, rfl⟩⟩
  · simp at hcs
    obtain ⟨rfl, rfl, rfl⟩ := hcs
    simp only [Prod.mk.injEq] at hx
    simp only [if_true] at hmm
    subst hmm
    have hT : Takes d m := .inr ⟨_, _, hx.1, by simp; omega⟩
    rcases Nat.eq_zero_or_pos m with h0 | h0
    · subst h0
      obtain rfl : n = 0 := by omega
      exact ⟨[], ⟨rfl, Nat.le_refl _, hm, fun h => (by cases h), fun k x hx => by simp at hx⟩, fun x hx => by simp at hx, hT⟩
    · have hsz0 : ∀ i, i < m → ∃ cs', (∀ j, j < sz → W.cell? ((a.add (i * sz)).add j) = cs'[j]?) ∧ cs'.length = sz ∧ ∃ x, good x ∧ en x = cs' := by
        intro i him
        obtain ⟨cs', hc, ht'⟩ := hi i him
        rw [hC] at hc
        obtain ⟨_, hcl, hat⟩ := World.cells?_some hc
        exact ⟨cs', hat, hcl, dec cs' _ _ hcl ht'⟩
      obtain ⟨b, off, spot⟩ := a
      have hs : spot = none := by
        obtain ⟨cs', h1, h2, _⟩ := hsz0 0 h0
        have h3 := h1 0 hz
        rw [List.getElem?_eq_getElem (by omega)] at h3
        have h4 : (((⟨b, off, spot⟩ : Addr).add (0 * sz)).add 0) = ⟨b, off, spot⟩ := by rw [Nat.zero_mul]; unfold Addr.add; rfl
        rw [h4] at h3
        exact cell_spot h3
      subst hs
      obtain ⟨l, h1, h2⟩ := At.of_key (w := W) (sz := sz) (enc := en) (good := good) (b := b) (off := off) hl hm (fun i hin => by
        obtain ⟨cs', g1, g2, x, hx, he⟩ := hsz0 i (by omega)
        refine ⟨x, hx, fun j u hu => ?_⟩
        have hj : j < sz := by
          have := (List.getElem?_eq_some_iff.1 hu).1
          rw [he] at this; omega
        have := g1 j hj
        rw [add_of_add, Addr.add_lit] at this
        rw [show off + i * sz + j = off + (i * sz + j) by omega, this, ← he, hu])
      exact ⟨l, h1, h2, hT⟩
theorem open_elemsP {α : Type} {en : α → List Value} {good : α → Prop} {sz : Nat} {t e : TypeId} (hts : P.underlying t = some (.slice e)) (hC : P.cellsOf e = sz) (hz : 0 < sz) {W : World}
    (dec : ∀ (cs : List Value) (n : Nat) (y : DataW H × List MemPlace), cs.length = sz → DataW.trod enc P W 0 (fun _ => true) true n e cs = some y → ∃ x : α, good x ∧ en x = cs)
    {base : Nat} {v : Value} {d : DataW H} {p : List MemPlace} (hv : Value.okWide P W .any base t v) (h : DataW.Trod enc P W 0 (fun _ => true) true t v d p) :
    ∃ A n c l, v = .slice A n c ∧ At W sz en A n c l ∧ (∀ x ∈ l, good x) ∧ Takes d c := by
  obtain ⟨A, n, c, rfl⟩ := okWide_slice hts hv
  obtain ⟨fuel, hf⟩ := h
  obtain ⟨l, h1, h2, h3⟩ := open_elemsQ hts hC hz dec (by simpa [Value.cells] using hf)
  exact ⟨A, n, c, l, rfl, h1, h2, h3⟩
/-- A field that is a slice of structs whose fields have a cell each. -/
theorem fldElems {α : Type} {en : α → List Value} {good : α → Prop} {sz : Nat} {t e : TypeId} (hts : P.underlying t = some (.slice e)) (hC : P.cellsOf e = sz) (hz : 0 < sz) {W : World}
    (dec : ∀ (cs : List Value) (n : Nat) (y : DataW H × List MemPlace), cs.length = sz → DataW.trod enc P W 0 (fun _ => true) true n e cs = some y → ∃ x : α, good x ∧ en x = cs)
    {n : Nat} {v : Value} {y : DataW H × List MemPlace} (h : DataW.trod enc P W 0 (fun _ => true) true n t [v] = some y) : ∃ A n c l, v = .slice A n c ∧ At W sz en A n c l ∧ (∀ x ∈ l, good x) := by
  have hv : ∃ A n c, v = .slice A n c := by
    rcases open_slice hts h with ⟨hcs, _⟩ | ⟨a, len, cap, m, k, D, Pl, hcs, _⟩
    · injection hcs with hcs _; exact ⟨_, _, _, hcs⟩
    · injection hcs with hcs _; exact ⟨_, _, _, hcs⟩
  obtain ⟨A, k, c, rfl⟩ := hv
  obtain ⟨d, p⟩ := y
  obtain ⟨l, h1, h2, _⟩ := open_elemsQ hts hC hz dec h
  exact ⟨A, k, c, l, rfl, h1, h2⟩
/-- What a field of a struct is, in its cells. -/
theorem fldAt {W : World} {n c : Nat} {t : TypeId} {vs : List Value} {cs : List Value} {r : Option (DataW H × List MemPlace)} (hs : (cs.drop c).take (P.cellsOf t) = vs) {off : Nat} (ho : off = c) (h : DataW.trod enc P W 0 (fun _ => true) true n t ((cs.drop off).take (P.cellsOf t)) = r) :
    DataW.trod enc P W 0 (fun _ => true) true n t vs = r := by
  subst ho; rw [hs] at h; exact h
end
section
variable {H : Type} {enc : TypeId × Value → H} {P : Program} {w : World} {base : Nat} {spare : Nat → Bool} {held : Bool}
theorem trodAll5 {t t' t2 t3 t4 : TypeId} {args : Array Value} {ds : List (DataW H)} {ps : List MemPlace} (h : DataW.TrodAll enc P w base spare held [t, t', t2, t3, t4] args.toList ds ps) :
    ∃ v v' v2 v3 v4 d d' d2 d3 d4 p p' p2 p3 p4, args = #[v, v', v2, v3, v4] ∧ ds = [d, d', d2, d3, d4] ∧ ps = p ++ p' ++ p2 ++ p3 ++ p4 ∧ DataW.Trod enc P w base spare held t v d p ∧ DataW.Trod enc P w base spare held t' v' d' p' ∧ DataW.Trod enc P w base spare held t2 v2 d2 p2 ∧ DataW.Trod enc P w base spare held t3 v3 d3 p3 ∧ DataW.Trod enc P w base spare held t4 v4 d4 p4 := by
  obtain ⟨v, vs, d, ds', p, q, hargs, rfl, rfl, hd, hrest⟩ := trodAll_cons h
  obtain ⟨v', vs', d', ds1, p', q', rfl, rfl, rfl, hd', hrest'⟩ := trodAll_cons hrest
  obtain ⟨v2, vs2, d2, ds2, p2, q2, rfl, rfl, rfl, hd2, hrest2⟩ := trodAll_cons hrest'
  obtain ⟨v3, vs3, d3, ds3, p3, q3, rfl, rfl, rfl, hd3, hrest3⟩ := trodAll_cons hrest2
  obtain ⟨v4, vs4, d4, ds4, p4, q4, rfl, rfl, rfl, hd4, hrest4⟩ := trodAll_cons hrest3
  obtain ⟨rfl, rfl, rfl⟩ := trodAll_nil hrest4
  exact ⟨v, v', v2, v3, v4, d, d', d2, d3, d4, p, p', p2, p3, p4, by cases args; simp_all, rfl, by simp, hd, hd', hd2, hd3, hd4⟩
end
end Go.Proofs.Ytkdmfkpkelnheaa
namespace Go.Proofs.Ytkdmfkpkelnheaa
open Go.ChangeShapes Go.WideShapes Go.ChangeAt Go.RowKit Go.Joins Go.Deep
section
variable {H : Type} {enc : TypeId × Value → H} {W : World} {base : Nat}
/-- The numbers of a sample are ints. -/
def okS (x : Smp) : Prop := (-9223372036854775808 ≤ x.time ∧ x.time ≤ 9223372036854775807) ∧ (-9223372036854775808 ≤ x.step ∧ x.step ≤ 9223372036854775807) ∧ (-9223372036854775808 ≤ x.shift ∧ x.shift ≤ 9223372036854775807) ∧ (-9223372036854775808 ≤ x.size ∧ x.size ≤ 9223372036854775807)
theorem fldBool {P : Program} {t : TypeId} {n : Nat} {v : Value} {y : DataW H × List MemPlace} (ht : P.underlying t = some .bool) (h : DataW.trod enc P W 0 (fun _ => true) true n t [v] = some y) : ∃ b, v = .bool b := by
  obtain ⟨b, hv, _⟩ := DataW.trod_bool ht h
  injection hv with hv _
  exact ⟨b, hv⟩
theorem decSmp {f0 f1 f2 f3 f4 : Field} (h0 : Try.prog.underlying f0.type = some (.int .i64)) (h1 : Try.prog.underlying f1.type = some (.int .i64)) (h2 : Try.prog.underlying f2.type = some (.int .i64)) (h3 : Try.prog.underlying f3.type = some (.int .i64)) (h4 : Try.prog.underlying f4.type = some .bool)
    (cs : List Value) (n : Nat) (hl : cs.length = 5) (hd : ∀ (j : Nat) (f : Field), #[f0, f1, f2, f3, f4][j]? = some f → ∃ v y, cs[j]? = some v ∧ DataW.trod enc Try.prog W 0 (fun _ => true) true n f.type [v] = some y) : ∃ x : Smp, okS x ∧ eSm x = cs := by
  obtain ⟨v0, y0, g0, t0⟩ := hd 0 f0 rfl
  obtain ⟨v1, y1, g1, t1⟩ := hd 1 f1 rfl
  obtain ⟨v2, y2, g2, t2⟩ := hd 2 f2 rfl
  obtain ⟨v3, y3, g3, t3⟩ := hd 3 f3 rfl
  obtain ⟨v4, y4, g4, t4⟩ := hd 4 f4 rfl
  obtain ⟨x0, rfl, b0⟩ := fldInt h0 t0
  obtain ⟨x1, rfl, b1⟩ := fldInt h1 t1
  obtain ⟨x2, rfl, b2⟩ := fldInt h2 t2
  obtain ⟨x3, rfl, b3⟩ := fldInt h3 t3
  obtain ⟨x4, rfl⟩ := fldBool h4 t4
  match cs, hl with
  | [c0, c1, c2, c3, c4], _ =>
    simp at g0 g1 g2 g3 g4
    exact ⟨⟨x0, x1, x2, x3, x4⟩, ⟨b0, b1, b2, b3⟩, by rw [g0, g1, g2, g3, g4]⟩
set_option maxRecDepth 100000 in
theorem open_samples {v : Value} {d : DataW H} {p : List MemPlace} (hv : Value.okWide Try.prog W .any base 22 v) (h : DataW.Trod enc Try.prog W 0 (fun _ => true) true 22 v d p) :
    ∃ A n c l, v = .slice A n c ∧ At W 5 eSm A n c l ∧ (∀ x ∈ l, okS x) ∧ Takes d c :=
  open_structsP (sz := 5) Try.underlying22 Try.underlying44 (by kernel_rfl) (by kernel_rfl) rfl (by omega) (decSmp Try.underlying3 Try.underlying3 Try.underlying3 Try.underlying3 Try.underlying4) hv h
end
end Go.Proofs.Ytkdmfkpkelnheaa
namespace Go.Proofs.Ytkdmfkpkelnheaa
theorem addR_app {l : List (Int × Int)} {x : Int} (h : ¬ (0 < l.length ∧ (l.getD (l.length - 1) (0, 0)).2 = x)) : addR l x = l ++ [(1, x)] := by unfold addR; rw [if_neg h]
/-- A list of runs, parted at the last one. -/
theorem last_split {l : List (Int × Int)} (h : 0 < l.length) : l = l.take (l.length - 1) ++ [l.getD (l.length - 1) (0, 0)] := by
  have := getD_take l (l.length - 1) (0, 0) (by omega)
  rw [show l.length - 1 + 1 = l.length by omega, List.take_length] at this
  exact this
theorem addR_in {l : List (Int × Int)} {x : Int} (h : 0 < l.length ∧ (l.getD (l.length - 1) (0, 0)).2 = x) : addR l x = l.take (l.length - 1) ++ [((l.getD (l.length - 1) (0, 0)).1 + 1, x)] := by
  unfold addR
  rw [if_pos h]
  generalize hy : (l.getD (l.length - 1) (0, 0)).1 + 1 = y
  have h1 := last_split h.1
  have h2 : (l.take (l.length - 1)).length = l.length - 1 := by rw [List.length_take]; omega
  obtain ⟨m, hm⟩ : ∃ m, m = l.length - 1 := ⟨_, rfl⟩
  rw [← hm] at h1 h2 ⊢
  generalize l.getD m (0, 0) = z at h1
  generalize l.take m = l0 at *
  subst h1
  rw [List.set_append_right _ _ (by omega), h2, Nat.sub_self]
  rfl
theorem valsR_app (a b : List (Int × Int)) : valsR (a ++ b) = valsR a ++ valsR b := by unfold valsR; rw [List.flatMap_append]
theorem valsR_one (c y : Int) : valsR [(c, y)] = List.replicate c.toNat y := by simp [valsR]
/-- A value added to runs is one more value. -/
theorem valsR_add {l : List (Int × Int)} {x : Int} (h : 0 < l.length → 0 ≤ (l.getD (l.length - 1) (0, 0)).1) : valsR (addR l x) = valsR l ++ [x] := by
  by_cases hc : 0 < l.length ∧ (l.getD (l.length - 1) (0, 0)).2 = x
  · have h1 := last_split hc.1
    have h0 := h hc.1
    rw [addR_in hc, valsR_app, valsR_one]
    have e : valsR l = valsR (l.take (l.length - 1)) ++ List.replicate (l.getD (l.length - 1) (0, 0)).1.toNat x := by
      conv => lhs; rw [h1]
      rw [valsR_app]
      congr 1
      rw [show l.getD (l.length - 1) (0, 0) = ((l.getD (l.length - 1) (0, 0)).1, (l.getD (l.length - 1) (0, 0)).2) from rfl, valsR_one, hc.2]
    rw [e, List.append_assoc]
    congr 1
    rw [show ((l.getD (l.length - 1) (0, 0)).1 + 1).toNat = (l.getD (l.length - 1) (0, 0)).1.toNat + 1 by omega, List.replicate_succ']
  · rw [addR_app hc, valsR_app, valsR_one]; rfl
theorem rowK_vals (f : Smp → Int) (l : List Smp) : ∀ k, k ≤ l.length → valsR (rowK f l k) = mapR k (fun i => f (l.getD i dS))
  | 0, _ => rfl
  | k + 1, hk => by
    have h1 := rowK_bd f l k
    rw [rowK, valsR_add (fun h0 => by have := h1.2 _ (show (rowK f l k).length - 1 < _ by omega); omega), rowK_vals f l k (by omega), mapR_succ]
/-- The values of runs are among those that were added. -/
theorem addR_mem {l : List (Int × Int)} {x : Int} {P : Int → Prop} (h : ∀ i, i < l.length → P (l.getD i (0, 0)).2) (hx : P x) : ∀ i, i < (addR l x).length → P ((addR l x).getD i (0, 0)).2 := by
  intro i hi
  unfold addR at hi ⊢
  split at hi
  · rename_i hc
    rw [if_pos hc]
    rw [List.length_set] at hi
    by_cases hl : i = l.length - 1
    · subst hl
      rw [List.getD_eq_getElem?_getD, List.getElem?_set_self (by omega)]; exact hx
    · rw [List.getD_eq_getElem?_getD, List.getElem?_set_ne (by omega), ← List.getD_eq_getElem?_getD]; exact h i hi
  · rename_i hc
    rw [if_neg hc]
    rw [List.length_append] at hi
    simp only [List.length_cons, List.length_nil] at hi
    by_cases hl : i < l.length
    · rw [List.getD_eq_getElem?_getD, List.getElem?_append_left hl, ← List.getD_eq_getElem?_getD]; exact h i hl
    · obtain rfl : i = l.length := by omega
      rw [List.getD_eq_getElem?_getD, List.getElem?_append_right (Nat.le_refl _)]; simpa using hx
theorem rowK_mem (f : Smp → Int) (l : List Smp) {P : Int → Prop} : ∀ k, (∀ i, i < k → P (f (l.getD i dS))) → ∀ i, i < (rowK f l k).length → P ((rowK f l k).getD i (0, 0)).2
  | 0, _, i, hi => absurd hi (Nat.not_lt_zero _)
  | k + 1, h, i, hi => addR_mem (rowK_mem f l k (fun j hj => h j (by omega))) (h k (Nat.lt_succ_self k)) i hi
theorem rowK_ok {f : Smp → Int} {l : List Smp} {least : Int} (hl : l.length ≤ 5000) (h : ∀ i, i < l.length → least ≤ f (l.getD i dS) ∧ f (l.getD i dS) ≤ 1000000000) : runsF least (rowK f l l.length) = 0 := by
  refine firstF_zero (fun i hi => ?_)
  have h1 := (rowK_bd f l l.length).2 i hi
  have h2 := rowK_mem f l (P := fun x => least ≤ x ∧ x ≤ 1000000000) l.length h i hi
  unfold rnEl badR
  rw [if_neg]
  simp only [Bool.or_eq_true, decide_eq_true_iff]
  omega
theorem rowK_cnt {f : Smp → Int} {l : List Smp} {least : Int} (h : runsF least (rowK f l l.length) = 0) : cntA (rowK f l l.length) = (l.length : Int) := by
  rw [← valsR_all h, rowK_vals f l l.length (Nat.le_refl _), mapR_len]
/-! ### Keys -/
theorem keyK_bd (l : List Smp) : ∀ k i, i < (keyK l k).length → 1 ≤ (keyK l k).getD i 0 ∧ (keyK l k).getD i 0 ≤ (k : Int) ∧ (0 < i → (keyK l k).getD (i - 1) 0 < (keyK l k).getD i 0)
  | 0, i, hi => absurd hi (Nat.not_lt_zero _)
  | k + 1, i, hi => by
    have ih := keyK_bd l k
    unfold keyK at hi ⊢
    by_cases hk : (l.getD k dS).key = true
    · rw [if_pos hk] at hi ⊢
      rw [List.length_append] at hi
      simp only [List.length_cons, List.length_nil] at hi
      have hl : ∀ j, j < (keyK l k).length → (keyK l k ++ [(k : Int) + 1]).getD j 0 = (keyK l k).getD j 0 := fun j hj => by
        rw [List.getD_eq_getElem?_getD, List.getElem?_append_left hj, ← List.getD_eq_getElem?_getD]
      by_cases h1 : i < (keyK l k).length
      · rw [hl i h1]
        have := ih i h1
        refine ⟨this.1, by omega, fun h2 => ?_⟩
        rw [hl (i - 1) (by omega)]; exact this.2.2 h2
      · obtain rfl : i = (keyK l k).length := by omega
        have e : (keyK l k ++ [(k : Int) + 1]).getD (keyK l k).length 0 = (k : Int) + 1 := by
          rw [List.getD_eq_getElem?_getD, List.getElem?_append_right (Nat.le_refl _)]; simp
        rw [e]
        refine ⟨by omega, by omega, fun h2 => ?_⟩
        rw [hl _ (by omega)]
        have := (ih ((keyK l k).length - 1) (by omega)).2.1
        omega
    · rw [if_neg hk] at hi ⊢
      have := ih i hi
      exact ⟨this.1, by omega, this.2.2⟩
theorem keyK_has (l : List Smp) {i : Nat} : ∀ k, (keyK l k).contains ((i : Int) + 1) = (decide (i < k) && (l.getD i dS).key)
  | 0 => by simp [keyK]
  | k + 1 => by
    have ih := keyK_has l (i := i) k
    unfold keyK
    by_cases hk : (l.getD k dS).key = true
    · rw [if_pos hk, List.contains_append, ih]
      by_cases h1 : i = k
      · subst h1; rw [hk]; simp
      · have h2 : decide (i < k + 1) = decide (i < k) := by simp only [decide_eq_decide]; omega
        have h3 : [(k : Int) + 1].contains ((i : Int) + 1) = false := by simp; omega
        rw [h2, h3, Bool.or_false]
    · rw [if_neg hk, ih]
      by_cases h1 : i = k
      · subst h1; rw [Bool.not_eq_true] at hk; rw [hk]; simp
      · have h2 : decide (i < k + 1) = decide (i < k) := by simp only [decide_eq_decide]; omega
        rw [h2]
/-! ### Chunks -/
theorem chK_get_bd (ch : List Int) : ∀ k i, i < (chK ch k).length → 1 ≤ ((chK ch k).getD i (0, 0)).1 ∧ ((chK ch k).getD i (0, 0)).1 ≤ (k : Int) ∧ (i = 0 → ((chK ch k).getD i (0, 0)).1 = 1) ∧ (0 < i → ((chK ch k).getD (i - 1) (0, 0)).1 < ((chK ch k).getD i (0, 0)).1) ∧ (∃ j, j < k ∧ ((chK ch k).getD i (0, 0)).2 = ch.getD j 0)
  | 0, i, hi => absurd hi (Nat.not_lt_zero _)
  | k + 1, i, hi => by
    have ih := chK_get_bd ch k
    unfold chK at hi ⊢
    by_cases hk : k = 0 ∨ ch.getD k 0 ≠ ch.getD (k - 1) 0
    · rw [if_pos hk] at hi ⊢
      rw [List.length_append] at hi
      simp only [List.length_cons, List.length_nil] at hi
      have hl : ∀ j, j < (chK ch k).length → (chK ch k ++ [((k : Int) + 1, ch.getD k 0)]).getD j (0, 0) = (chK ch k).getD j (0, 0) := fun j hj => by
        rw [List.getD_eq_getElem?_getD, List.getElem?_append_left hj, ← List.getD_eq_getElem?_getD]
      by_cases h1 : i < (chK ch k).length
      · rw [hl i h1]
        obtain ⟨a1, a2, a3, a4, j, a5, a6⟩ := ih i h1
        refine ⟨a1, by omega, a3, fun h2 => ?_, j, by omega, a6⟩
        rw [hl (i - 1) (by omega)]; exact a4 h2
      · obtain rfl : i = (chK ch k).length := by omega
        have e : (chK ch k ++ [((k : Int) + 1, ch.getD k 0)]).getD (chK ch k).length (0, 0) = ((k : Int) + 1, ch.getD k 0) := by
          rw [List.getD_eq_getElem?_getD, List.getElem?_append_right (Nat.le_refl _)]; simp
        rw [e]
        refine ⟨by show (1 : Int) ≤ (k : Int) + 1; omega, by show (k : Int) + 1 ≤ ((k + 1 : Nat) : Int); omega, fun h2 => ?_, fun h2 => ?_, k, by omega, rfl⟩
        · rcases Nat.eq_zero_or_pos k with h3 | h3
          · subst h3; rfl
          · have := (chK_last ch k h3).1; omega
        · rw [hl _ (by omega)]
          have := (ih ((chK ch k).length - 1) (by omega)).2.1
          show _ < (k : Int) + 1
          omega
    · rw [if_neg hk] at hi ⊢
      obtain ⟨a1, a2, a3, a4, j, a5, a6⟩ := ih i hi
      exact ⟨a1, by omega, a3, a4, j, by omega, a6⟩
theorem smOK_app (l r : List (Int × Int)) (c : Int) : ∀ k, k ≤ l.length → smOK (l ++ r) c k = smOK l c k
  | 0, _ => rfl
  | k + 1, hk => by
    have ih := smOK_app l r c k (by omega)
    rw [smOK, smOK, ih, List.getD_eq_getElem?_getD, List.getElem?_append_left (by omega), ← List.getD_eq_getElem?_getD]
theorem smO_snoc (l : List (Int × Int)) (x : Int × Int) (c : Int) : smO (l ++ [x]) c = if x.1 ≤ c then x.2 else smO l c := by
  unfold smO
  rw [List.length_append]
  show smOK (l ++ [x]) c (l.length + 1) = _
  rw [smOK, smOK_app l [x] c l.length (Nat.le_refl _)]
  have e : (l ++ [x]).getD l.length (0, 0) = x := by rw [List.getD_eq_getElem?_getD, List.getElem?_append_right (Nat.le_refl _)]; simp
  rw [e]
/-- The runs of chunks tell each chunk's samples. -/
theorem chK_smO (ch : List Int) : ∀ (m c : Nat), c < m → smO (chK ch m) ((c : Int) + 1) = ch.getD c 0
  | 0, c, h => absurd h (Nat.not_lt_zero _)
  | m + 1, c, h => by
    have ih := chK_smO ch m
    unfold chK
    by_cases hk : m = 0 ∨ ch.getD m 0 ≠ ch.getD (m - 1) 0
    · rw [if_pos hk, smO_snoc]
      rcases Nat.lt_or_ge c m with h1 | h1
      · rw [if_neg (by show ¬ ((m : Int) + 1 ≤ (c : Int) + 1); omega)]; exact ih c h1
      · obtain rfl : c = m := by omega
        rw [if_pos (Int.le_refl _)]
    · rw [if_neg hk]
      rcases Nat.lt_or_ge c m with h1 | h1
      · exact ih c h1
      · obtain rfl : c = m := by omega
        have h2 : 0 < c := by omega
        have h3 : ch.getD c 0 = ch.getD (c - 1) 0 := by
          by_cases h : ch.getD c 0 = ch.getD (c - 1) 0
          · exact h
          · exact absurd (.inr h) hk
        obtain ⟨h4, h5⟩ := chK_last ch c h2
        have h6 := (chK_get_bd ch c ((chK ch c).length - 1) (by omega)).2.1
        rw [h3, ← h5]
        generalize hL : chK ch c = L at *
        have h7 : smOK L ((c : Int) + 1) (L.length - 1 + 1) = (L.getD (L.length - 1) (0, 0)).2 := by rw [smOK, if_pos (by omega)]
        unfold smO
        rw [← h7]
        congr 1
        omega
theorem allS_chK (ch : List Int) {m : Nat} : ∀ c, c ≤ m → allS (chK ch m) c = sumI ch c
  | 0, _ => rfl
  | c + 1, hc => by rw [allS, sumI, allS_chK ch c (by omega), chK_smO ch m c (by omega)]
end Go.Proofs.Ytkdmfkpkelnheaa
namespace Go.Proofs.Ytkdmfkpkelnheaa
structure CmpR (l : List Smp) (ch pl : List Int) : Prop where
  smp : smpF l = 0
  len : ch.length = pl.length
  cq : ∀ i, i < ch.length → 1 ≤ ch.getD i 0 ∧ ch.getD i 0 ≤ 1000
  sum : sumI ch ch.length = (l.length : Int)
  ql : firstF (plEl pl) pl.length = 0
theorem cmp_parts {l : List Smp} {ch pl : List Int} (h : cmpF l ch pl = 0) : CmpR l ch pl := by
  unfold cmpF at h
  by_cases h1 : smpF l ≠ 0
  · rw [if_pos h1] at h; exact absurd h h1
  rw [if_neg h1] at h
  by_cases h2 : ch.length ≠ pl.length
  · rw [if_pos h2] at h; omega
  rw [if_neg h2] at h
  by_cases h3 : firstF (cqEl ch) ch.length ≠ 0
  · rw [if_pos h3] at h; omega
  rw [if_neg h3] at h
  by_cases h4 : sumI ch ch.length ≠ (l.length : Int)
  · rw [if_pos h4] at h; omega
  rw [if_neg h4] at h
  by_cases h5 : firstF (qlEl pl) pl.length ≠ 0
  · rw [if_pos h5] at h; omega
  refine ⟨by omega, by omega, fun i hi => ?_, by omega, by have : firstF (qlEl pl) pl.length = 0 := by omega
                                                           exact this⟩
  have h6 := firstF_all (by omega : firstF (cqEl ch) ch.length = 0) i hi
  unfold cqEl at h6
  by_cases h7 : ch.getD i 0 < 1 ∨ 1000 < ch.getD i 0
  · rw [if_pos h7] at h6; omega
  · omega
theorem cmp_of {l : List Smp} {ch pl : List Int} (h : CmpR l ch pl) : cmpF l ch pl = 0 := by
  unfold cmpF
  have h3 : firstF (cqEl ch) ch.length = 0 := firstF_zero (fun i hi => by
    have := h.cq i hi
    unfold cqEl; rw [if_neg (by omega)])
  have h5 : firstF (qlEl pl) pl.length = 0 := h.ql
  rw [if_neg (by have := h.smp; omega), if_neg (by have := h.len; omega), if_neg (by omega), if_neg (by have := h.sum; omega), if_neg (by omega)]
theorem smp_bd {l : List Smp} (h : smpF l = 0) {i : Nat} (hi : i < l.length) : (-1000000000000000 ≤ (l.getD i dS).time ∧ (l.getD i dS).time ≤ 1000000000000000) ∧ (0 ≤ (l.getD i dS).step ∧ (l.getD i dS).step ≤ 1000000000) ∧ (-1000000000 ≤ (l.getD i dS).shift ∧ (l.getD i dS).shift ≤ 1000000000) ∧ (0 ≤ (l.getD i dS).size ∧ (l.getD i dS).size ≤ 100000) :=
  badS_ok (smpEl_zero ((smpF_zero h).2.1 i hi)).1
/-- The end of all runs. -/
def endA (s : Int) (l : List (Int × Int)) : Int := endI s l l.length
theorem endI_app (s : Int) (l r : List (Int × Int)) : ∀ k, k ≤ l.length → endI s (l ++ r) k = endI s l k
  | 0, _ => rfl
  | k + 1, hk => by
    rw [endI, endI, endI_app s l r k (by omega), List.getD_eq_getElem?_getD, List.getElem?_append_left (by omega), ← List.getD_eq_getElem?_getD]
theorem endA_snoc (s : Int) (l : List (Int × Int)) (x : Int × Int) : endA s (l ++ [x]) = endA s l + x.1 * x.2 := by
  unfold endA
  rw [List.length_append]
  show endI s (l ++ [x]) (l.length + 1) = _
  rw [endI, endI_app s l [x] l.length (Nat.le_refl _)]
  have e : (l ++ [x]).getD l.length (0, 0) = x := by rw [List.getD_eq_getElem?_getD, List.getElem?_append_right (Nat.le_refl _)]; simp
  rw [e]
theorem endA_add (s : Int) (l : List (Int × Int)) (x : Int) : endA s (addR l x) = endA s l + x := by
  by_cases hc : 0 < l.length ∧ (l.getD (l.length - 1) (0, 0)).2 = x
  · rw [addR_in hc, endA_snoc]
    have h1 := last_split hc.1
    have e : endA s l = endA s (l.take (l.length - 1)) + (l.getD (l.length - 1) (0, 0)).1 * x := by
      conv => lhs; rw [h1]
      rw [endA_snoc, hc.2]
    rw [e]
    show endA s (l.take (l.length - 1)) + ((l.getD (l.length - 1) (0, 0)).1 + 1) * x = _
    rw [Int.add_mul, Int.one_mul]; omega
  · rw [addR_app hc, endA_snoc]
    show endA s l + 1 * x = _
    rw [Int.one_mul]
theorem rowK_end {l : List Smp} (h : smpF l = 0) (s : Int) (hs : 0 < l.length → s = (l.getD 0 dS).time) : ∀ k, k ≤ l.length → endA s (rowK Smp.step l k) = if k = 0 then s else (l.getD (k - 1) dS).time + (l.getD (k - 1) dS).step
  | 0, _ => rfl
  | k + 1, hk => by
    have ih := rowK_end h s hs k (by omega)
    have e : (if k + 1 = 0 then s else (l.getD (k + 1 - 1) dS).time + (l.getD (k + 1 - 1) dS).step) = (l.getD k dS).time + (l.getD k dS).step := by rw [if_neg (by omega), Nat.add_sub_cancel]
    rw [e, rowK, endA_add, ih]
    rcases Nat.eq_zero_or_pos k with h0 | h0
    · subst h0; rw [if_pos rfl, hs (by omega)]
    · have h1 : ¬ k = 0 := by omega
      rw [if_neg h1, (smpEl_zero ((smpF_zero h).2.1 k (by omega))).2 h0]
theorem cmpT_sizes {l : List Smp} (h : smpF l = 0) {s : List Int} (hs : s = if oneK l l.length = true then (szK l l.length).take 1 else szK l l.length) : ¬ szBad (l.length : Int) s.length ∧ firstF (szEl s) s.length = 0 ∧ ∀ i, i < l.length → s.getD (min i (s.length - 1)) 0 = (l.getD i dS).size := by
  have hl := szK_len l l.length
  have hat := fun i hi => szK_at l (i := i) l.length hi
  have hone := oneK_iff l l.length
  have hel : ∀ (s' : List Int), (∀ i, i < s'.length → ∃ j, j < l.length ∧ s'.getD i 0 = (l.getD j dS).size) → firstF (szEl s') s'.length = 0 := fun s' hh => firstF_zero (fun i hi => by
    obtain ⟨j, hj, e⟩ := hh i hi
    have := (smp_bd h hj).2.2.2
    unfold szEl; rw [if_neg (by rw [e]; omega)])
  by_cases ho : oneK l l.length = true
  · rw [if_pos ho] at hs
    rcases Nat.eq_zero_or_pos l.length with h0 | h0
    · have e : s = [] := by rw [hs, List.eq_nil_of_length_eq_zero (hl.trans h0)]; rfl
      subst e
      exact ⟨fun hb => hb.1 (by simp [h0]), rfl, fun i hi => absurd hi (by omega)⟩
    · have hsl : s.length = 1 := by rw [hs, List.length_take, hl]; omega
      have hs0 : s.getD 0 0 = (l.getD 0 dS).size := by
        rw [hs, List.getD_eq_getElem?_getD, List.getElem?_take_of_lt (by omega), ← List.getD_eq_getElem?_getD]; exact hat 0 h0
      refine ⟨fun hb => ?_, hel s (fun i hi => ⟨0, h0, by rw [show i = 0 by omega]; exact hs0⟩), fun i hi => ?_⟩
      · rcases hb.2 with h1 | h1
        · omega
        · exact h1 hsl
      · rw [hsl, show min i (1 - 1) = 0 by omega, hs0]
        exact ((hone.1 ho) i hi).symm
  · rw [if_neg ho] at hs
    subst hs
    refine ⟨fun hb => hb.1 (by rw [hl]), hel _ (fun i hi => ⟨i, by omega, hat i (by omega)⟩), fun i hi => ?_⟩
    rw [hl, Nat.min_eq_left (by omega)]
    exact hat i hi
theorem cmpT_keys (l : List Smp) {ks : List Int} (hk : ks = if allK l l.length = true then [] else keyK l l.length) : firstF (kyEl (l.length : Int) ks) ks.length = 0 ∧ ∀ i, i < l.length → (allK l l.length || ks.contains ((i : Int) + 1)) = (l.getD i dS).key := by
  by_cases ha : allK l l.length = true
  · rw [if_pos ha] at hk
    subst hk
    refine ⟨rfl, fun i hi => ?_⟩
    rw [ha, (allK_iff l l.length).1 ha i hi]; rfl
  · rw [if_neg ha] at hk
    subst hk
    refine ⟨firstF_zero (fun i hi => ?_), fun i hi => ?_⟩
    · obtain ⟨h1, h2, h3⟩ := keyK_bd l l.length i hi
      unfold kyEl
      rw [if_neg (by omega), if_neg (fun hc => by have := h3 hc.1; omega)]
    · rw [Bool.not_eq_true] at ha
      rw [ha, Bool.false_or, keyK_has, decide_eq_true hi, Bool.true_and]
theorem cmpT_chunks {l : List Smp} {ch pl : List Int} (h : CmpR l ch pl) (_hl : l.length ≤ 5000) (hc : ch.length ≤ 5000) : chunksF (l.length : Int) (chK ch ch.length) pl = 0 := by
  have hch : firstF (chEl (chK ch ch.length)) (chK ch ch.length).length = 0 := firstF_zero (fun i hi => by
    obtain ⟨a1, a2, a3, a4, j, a5, a6⟩ := chK_get_bd ch ch.length i hi
    have h1 := h.cq j a5
    unfold chEl
    rw [if_neg, if_neg]
    · unfold ordC
      simp only [decide_eq_true_iff]
      rintro (⟨b1, b2⟩ | ⟨b1, b2⟩)
      · exact b2 (a3 b1)
      · have := a4 b1; omega
    · unfold badC
      simp only [Bool.or_eq_true, decide_eq_true_iff]
      rw [a6]; omega)
  have hf : ¬ chForm (chK ch ch.length) pl.length := by
    rintro (⟨b1, b2⟩ | ⟨b1, b2⟩)
    · have := (chK_last ch ch.length (by have := h.len; omega)).1; omega
    · have := (chK_get_bd ch ch.length ((chK ch ch.length).length - 1) (by omega)).2.1
      have := h.len
      omega
  unfold chunksF
  rw [if_neg (by omega), if_neg hf, if_neg, h.ql]
  rw [← allS_sum hch hf, ← h.len, allS_chK ch ch.length (Nat.le_refl _), h.sum]
  exact fun h => h rfl
theorem cmp_right {l : List Smp} {ch pl : List Int} (h : cmpF l ch pl = 0) : tabF (cmpT l ch pl) = 0 := by
  have hp := cmp_parts h
  have hfw := chunks_few h
  have hsm := hp.smp
  have r1 : runsF 0 (rowK Smp.step l l.length) = 0 := rowK_ok hfw.1 (fun i hi => (smp_bd hsm hi).2.1)
  have r2 : runsF (-1000000000) (rowK Smp.shift l l.length) = 0 := rowK_ok hfw.1 (fun i hi => (smp_bd hsm hi).2.2.1)
  have c1 := rowK_cnt r1
  have c2 := rowK_cnt r2
  have hsz := cmpT_sizes hsm (s := (cmpT l ch pl).sizes) rfl
  have hky := cmpT_keys l (ks := (cmpT l ch pl).keys) rfl
  have hst : (cmpT l ch pl).start = if 0 < l.length then (l.getD 0 dS).time else 0 := rfl
  have hend := rowK_end hsm (cmpT l ch pl).start (fun h0 => by rw [hst, if_pos h0]) l.length (Nat.le_refl _)
  have hns : noT (cmpT l ch pl).start = false := by
    rw [hst]
    by_cases h0 : 0 < l.length
    · rw [if_pos h0]
      have := (smp_bd hsm h0).1
      unfold noT; exact decide_eq_false (by omega)
    · rw [if_neg h0]; rfl
  have e1 : cntA (cmpT l ch pl).steps = (l.length : Int) := c1
  have e2 : cntA (cmpT l ch pl).shifts = (l.length : Int) := c2
  have t0 : ¬ 5000 < cntA (cmpT l ch pl).steps := by rw [e1]; omega
  rw [tabF_two hns r1 t0 r2, tabF2_three (by rw [e1, e2]; rintro (hc | hc); exact hc rfl; exact hsz.1 hc) hsz.2.1 (by rw [e1]; exact hky.1)]
  unfold tabF3
  have hcf : chunksF (cntA (cmpT l ch pl).steps) (cmpT l ch pl).chunks (cmpT l ch pl).places = 0 := by rw [e1]; exact cmpT_chunks hp hfw.1 hfw.2.1
  rw [if_neg (by omega), if_neg]
  have he : endI (cmpT l ch pl).start (cmpT l ch pl).steps (cmpT l ch pl).steps.length = endA (cmpT l ch pl).start (rowK Smp.step l l.length) := rfl
  rw [he, hend]
  by_cases h0 : l.length = 0
  · rw [if_pos h0, hns]; simp
  · rw [if_neg h0]
    have := (smpF_zero hsm).2.2 (by omega)
    unfold endS at this
    rw [this]; simp
theorem list_getD {a b : List Smp} (hl : a.length = b.length) (h : ∀ i, i < b.length → a.getD i dS = b.getD i dS) : a = b := by
  apply List.ext_getElem hl
  intro i h1 h2
  have := h i h2
  rw [List.getD_eq_getElem?_getD, List.getElem?_eq_getElem h1, List.getD_eq_getElem?_getD, List.getElem?_eq_getElem h2] at this
  exact this
theorem cmp_exN {l : List Smp} {ch pl : List Int} : exN (cmpT l ch pl) = l.length := by
  show (valsR (rowK Smp.step l l.length)).length = _
  rw [rowK_vals _ _ _ (Nat.le_refl _), mapR_len]
/-- A table tells the samples that were put into it. -/
theorem cmp_exS {l : List Smp} {ch pl : List Int} (h : cmpF l ch pl = 0) : exS (cmpT l ch pl) = l := by
  have hp := cmp_parts h
  have hsm := hp.smp
  have hN : exN (cmpT l ch pl) = l.length := cmp_exN
  have hsz := cmpT_sizes hsm (s := (cmpT l ch pl).sizes) rfl
  have hky := cmpT_keys l (ks := (cmpT l ch pl).keys) rfl
  have v1 : valsR (cmpT l ch pl).steps = mapR l.length (fun i => (l.getD i dS).step) := rowK_vals _ _ _ (Nat.le_refl _)
  have v2 : valsR (cmpT l ch pl).shifts = mapR l.length (fun i => (l.getD i dS).shift) := rowK_vals _ _ _ (Nat.le_refl _)
  have tm : ∀ i, i < l.length → exT (cmpT l ch pl) i = (l.getD i dS).time := by
    intro i
    induction i with
    | zero => intro h0; show (cmpT l ch pl).start = _; show (if 0 < l.length then (l.getD 0 dS).time else 0) = _; rw [if_pos h0]
    | succ i ih =>
      intro hi
      rw [exT, ih (by omega), v1, mapR_getD _ _ (by omega)]
      exact ((smpEl_zero ((smpF_zero hsm).2.1 (i + 1) hi)).2 (by omega)).symm
  refine list_getD (by unfold exS; rw [mapR_len, hN]) (fun i hi => ?_)
  rw [exS_at (by rw [hN]; exact hi), tm i hi]
  have k1 : exSt (cmpT l ch pl) i = (l.getD i dS).step := by unfold exSt; rw [v1, mapR_getD _ _ hi]
  have k2 : exSh (cmpT l ch pl) i = (l.getD i dS).shift := by unfold exSh; rw [v2, mapR_getD _ _ hi]
  have k3 : exSz (cmpT l ch pl) i = (l.getD i dS).size := hsz.2.2 i hi
  have k4 : exKy (cmpT l ch pl) (cmpT l ch pl).keys.length i = (l.getD i dS).key := by
    unfold exKy
    rw [List.take_length]
    exact hky.2 i hi
  rw [k1, k2, k3, k4]
theorem cmp_spl {l : List Smp} {ch pl : List Int} (h : cmpF l ch pl = 0) : (spS (cmpT l ch pl)).length = l.length := by
  rw [spS_len (tab_right (cmp_right h)), cmp_exN]
theorem cmp_expF {l : List Smp} {ch pl : List Int} (h : cmpF l ch pl = 0) : expF (cmpT l ch pl) = 0 ∨ expF (cmpT l ch pl) = 1 := by
  unfold expF
  rw [if_neg (by have := cmp_right h; omega)]
  split
  · exact .inr rfl
  · exact .inl rfl
end Go.Proofs.Ytkdmfkpkelnheaa
namespace Go.Proofs.Ytkdmfkpkelnheaa
theorem exT_run {t : Tab} {k m : Nat} {y : Int} (hv : ∀ j, j < m → (valsR t.steps).getD (k + j) 0 = y) : ∀ j, j ≤ m → exT t (k + j) = exT t k + (j : Int) * y
  | 0, _ => by simp
  | j + 1, hj => by
    rw [show k + (j + 1) = k + j + 1 by omega, exT, exT_run hv j (by omega), hv j (by omega)]
    rw [show ((j + 1 : Nat) : Int) = (j : Int) + 1 by omega, Int.add_mul]; omega
theorem exT_end {t : Tab} (h : runsF 0 t.steps = 0) : ∀ k, k ≤ t.steps.length → exT t (valsR (t.steps.take k)).length = endI t.start t.steps k
  | 0, _ => rfl
  | k + 1, hk => by
    have ih := exT_end h k (by omega)
    have h1 := runs_ok h k (by omega)
    have h2 := exT_run (t := t) (k := (valsR (t.steps.take k)).length) (m := (t.steps.getD k (0, 0)).1.toNat) (y := (t.steps.getD k (0, 0)).2) (fun j hj => (valsR_at (by omega) (by omega)).1) (t.steps.getD k (0, 0)).1.toNat (Nat.le_refl _)
    rw [valsR_take (by omega), List.length_append, List.length_replicate, h2, ih, endI]
    rw [show (((t.steps.getD k (0, 0)).1.toNat : Nat) : Int) = (t.steps.getD k (0, 0)).1 by omega]
theorem exT_mono {t : Tab} (h : runsF 0 t.steps = 0) (i : Nat) : ∀ d : Nat, exT t i ≤ exT t (i + d)
  | 0 => Int.le_refl _
  | d + 1 => by
    have ih := exT_mono h i d
    have := valsR_bd h (Int.le_refl _) (i + d)
    rw [show i + (d + 1) = i + d + 1 by omega, exT]; omega
theorem exT_last {t : Tab} (h : TabR1 t) : exT t (exN t) = endI t.start t.steps t.steps.length := by
  have := exT_end h.steps t.steps.length (Nat.le_refl _)
  rw [List.take_length] at this
  exact this
theorem exT_in {t : Tab} (h : TabR1 t) {i : Nat} (hi : i ≤ exN t) : -1000000000000000 ≤ exT t i ∧ exT t i ≤ 1000000000000000 := by
  have h1 := exT_mono h.steps 0 i
  have h2 := exT_mono h.steps i (exN t - i)
  rw [show i + (exN t - i) = exN t by omega, exT_last h] at h2
  rw [Nat.zero_add] at h1
  have h3 := h.start
  have h4 := h.ends
  unfold noT at h3 h4
  simp only [decide_eq_false_iff_not] at h3 h4
  have h5 : exT t 0 = t.start := rfl
  omega
theorem exS_smp {t : Tab} (h : TabR1 t) : smpF (exS t) = 0 := by
  have hl : (exS t).length = exN t := by unfold exS; exact mapR_len _ _
  have hn := exN_eq h
  have hf := h.few
  refine smpF_of (by omega) (fun i hi => ?_) (fun h0 => ?_)
  · rw [hl] at hi
    have h1 := exT_in h (i := i) (by omega)
    have h2 := valsR_bd h.steps (Int.le_refl _) i
    have h3 := valsR_bd h.shifts (by omega) i
    have h4 := exSz_bd h.sizes i
    unfold smpEl
    rw [exS_at hi, if_neg, if_neg]
    · rintro ⟨h0, hc⟩
      rw [exS_at (by omega)] at hc
      apply hc
      show exT t i = exT t (i - 1) + exSt t (i - 1)
      obtain ⟨j, rfl⟩ : ∃ j, i = j + 1 := ⟨i - 1, by omega⟩
      rfl
    · unfold badS noT exSt exSh
      simp only [Bool.or_eq_true, decide_eq_true_iff]
      omega
  · unfold endS
    rw [hl, exS_at (by omega)]
    show noT (exT t (exN t - 1) + exSt t (exN t - 1)) = false
    have e : exT t (exN t - 1) + exSt t (exN t - 1) = exT t (exN t) := by
      obtain ⟨j, hj⟩ : ∃ j, exN t = j + 1 := ⟨exN t - 1, by omega⟩
      rw [hj]; rfl
    rw [e]
    have := exT_in h (i := exN t) (Nat.le_refl _)
    unfold noT; exact decide_eq_false (by omega)
/-- How many samples each chunk has. -/
def manyS (t : Tab) : List Int := mapR t.places.length (fun c => smO t.chunks ((c : Int) + 1))
theorem manyS_at {t : Tab} {c : Nat} (h : c < t.places.length) : (manyS t).getD c 0 = smO t.chunks ((c : Int) + 1) := mapR_getD _ _ h
theorem sumI_many (t : Tab) : ∀ k, k ≤ t.places.length → sumI (manyS t) k = allS t.chunks k
  | 0, _ => rfl
  | k + 1, hk => by rw [sumI, allS, sumI_many t k (by omega), manyS_at (by omega)]
theorem chunks_some {t : Tab} (h : TabR1 t) (h0 : 0 < t.places.length) : 0 < t.chunks.length := Nat.pos_of_ne_zero fun hc => h.form (.inl ⟨h0, hc⟩)
theorem exp_cmpF {t : Tab} (h : TabR1 t) : cmpF (exS t) (manyS t) t.places = 0 := by
  have hl : (exS t).length = exN t := by unfold exS; exact mapR_len _ _
  have hm : (manyS t).length = t.places.length := mapR_len _ _
  refine cmp_of ⟨exS_smp h, hm, fun i hi => ?_, ?_, h.places⟩
  · rw [hm] at hi
    rw [manyS_at hi]
    exact ⟨smO_pos h.chunks (chunks_some h (by omega)) (by omega), (smO_bd h.chunks _).2⟩
  · rw [hm, sumI_many t _ (Nat.le_refl _), allS_sum h.chunks h.form, h.sum, ← exN_eq h, hl]
/-! ### Not longer -/
theorem addR_last (l : List (Int × Int)) (x : Int) : 0 < (addR l x).length ∧ ((addR l x).getD ((addR l x).length - 1) (0, 0)).2 = x := by
  by_cases hc : 0 < l.length ∧ (l.getD (l.length - 1) (0, 0)).2 = x
  · rw [addR_in hc, List.length_append]
    simp only [List.length_cons, List.length_nil]
    refine ⟨by omega, ?_⟩
    rw [List.getD_eq_getElem?_getD, List.getElem?_append_right (by omega)]
    simp
  · rw [addR_app hc, List.length_append]
    simp only [List.length_cons, List.length_nil]
    refine ⟨by omega, ?_⟩
    rw [List.getD_eq_getElem?_getD, List.getElem?_append_right (by omega)]
    simp
theorem addR_same {l : List (Int × Int)} {x : Int} (h : 0 < l.length ∧ (l.getD (l.length - 1) (0, 0)).2 = x) : (addR l x).length = l.length := by
  rw [addR_in h, List.length_append, List.length_take]; simp; omega
theorem rep_same (x : Int) : ∀ (c : Nat) (l : List (Int × Int)), 0 < l.length ∧ (l.getD (l.length - 1) (0, 0)).2 = x → ((List.replicate c x).foldl addR l).length = l.length
  | 0, _, _ => rfl
  | c + 1, l, h => by
    rw [List.replicate_succ, List.foldl_cons, rep_same x c _ (addR_last l x), addR_same h]
theorem rep_few (x : Int) (c : Nat) (l : List (Int × Int)) : ((List.replicate c x).foldl addR l).length ≤ l.length + 1 := by
  cases c with
  | zero => exact Nat.le_succ _
  | succ c =>
    rw [List.replicate_succ, List.foldl_cons, rep_same x c _ (addR_last l x)]
    exact addR_len l x
theorem vals_few : ∀ (r l : List (Int × Int)), ((valsR r).foldl addR l).length ≤ l.length + r.length
  | [], l => by simp [valsR]
  | x :: r, l => by
    have e : valsR (x :: r) = List.replicate x.1.toNat x.2 ++ valsR r := by simp [valsR]
    rw [e, List.foldl_append]
    have h1 := vals_few r ((List.replicate x.1.toNat x.2).foldl addR l)
    have h2 := rep_few x.2 x.1.toNat l
    rw [List.length_cons]; omega
theorem rowK_fold (f : Smp → Int) (l : List Smp) : ∀ k, rowK f l k = (mapR k (fun i => f (l.getD i dS))).foldl addR []
  | 0 => rfl
  | k + 1 => by rw [rowK, rowK_fold f l k, mapR_succ, List.foldl_append]; rfl
theorem rowK_few {f : Smp → Int} {l : List Smp} {n : Nat} {r : List (Int × Int)} (h : mapR n (fun i => f (l.getD i dS)) = valsR r) : (rowK f l n).length ≤ r.length := by
  rw [rowK_fold, h]
  have := vals_few r []
  simpa using this
theorem list_mapR (l : List Int) : l = mapR l.length (fun i => l.getD i 0) := by
  apply List.ext_getElem (by rw [mapR_len])
  intro i h1 h2
  simp [mapR, List.getD, h1]
theorem few_steps {t : Tab} : (cmpT (exS t) (manyS t) t.places).steps.length ≤ t.steps.length := by
  have hl : (exS t).length = exN t := by unfold exS; exact mapR_len _ _
  refine rowK_few ?_
  rw [hl]
  have e := list_mapR (valsR t.steps)
  rw [e]
  exact mapR_congr (fun i hi => by rw [exS_at hi]; rfl)
theorem few_shifts {t : Tab} (h : TabR1 t) : (cmpT (exS t) (manyS t) t.places).shifts.length ≤ t.shifts.length := by
  have hl : (exS t).length = exN t := by unfold exS; exact mapR_len _ _
  refine rowK_few ?_
  rw [hl]
  have e := list_mapR (valsR t.shifts)
  rw [e, exSh_len h]
  exact mapR_congr (fun i hi => by rw [exS_at hi]; rfl)
theorem few_sizes {t : Tab} (h : TabR1 t) : (cmpT (exS t) (manyS t) t.places).sizes.length ≤ t.sizes.length := by
  have hl : (exS t).length = exN t := by unfold exS; exact mapR_len _ _
  have hz := szK_len (exS t) (exS t).length
  show (if oneK (exS t) (exS t).length = true then (szK (exS t) (exS t).length).take 1 else szK (exS t) (exS t).length).length ≤ _
  have h1 := h.sz
  have h2 := exN_eq h
  unfold szBad at h1
  by_cases ho : oneK (exS t) (exS t).length = true
  · rw [if_pos ho, List.length_take]; omega
  · rw [if_neg ho]
    by_cases h3 : t.sizes.length = 1
    · exfalso
      apply ho
      rw [oneK_iff]
      intro i hi
      rw [exS_at (by omega), exS_at (by omega)]
      show exSz t i = exSz t 0
      rw [exSz_one h3, exSz_one h3]
    · omega
/-- How many runs of chunks begin up to a chunk. -/
def cntC (c : Int) : List (Int × Int) → Nat
  | [] => 0
  | r :: l => (if r.1 ≤ c then 1 else 0) + cntC c l
theorem cntC_le (c : Int) : ∀ l, cntC c l ≤ l.length
  | [] => Nat.le_refl _
  | r :: l => by have := cntC_le c l; rw [cntC, List.length_cons]; split <;> omega
theorem cntC_mono (c : Int) : ∀ l, cntC c l ≤ cntC (c + 1) l
  | [] => Nat.le_refl _
  | r :: l => by
    have := cntC_mono c l
    rw [cntC, cntC]
    by_cases h1 : r.1 ≤ c
    · rw [if_pos h1, if_pos (by omega)]; omega
    · rw [if_neg h1]; omega
theorem cntC_more (c : Int) : ∀ l : List (Int × Int), (∃ r ∈ l, r.1 = c + 1) → cntC c l + 1 ≤ cntC (c + 1) l
  | [], ⟨r, h, _⟩ => by cases h
  | x :: l, ⟨r, h, he⟩ => by
    rw [cntC, cntC]
    rcases List.mem_cons.1 h with h1 | h1
    · subst h1
      have := cntC_mono c l
      have e1 : ¬ r.1 ≤ c := by omega
      rw [if_neg e1, if_pos (by omega)]; omega
    · have := cntC_more c l ⟨r, h1, he⟩
      by_cases h2 : x.1 ≤ c
      · rw [if_pos h2, if_pos (by omega)]; omega
      · rw [if_neg h2]; omega
theorem smOK_same (l : List (Int × Int)) (c : Int) (h : ∀ i, i < l.length → (l.getD i (0, 0)).1 ≠ c + 1) : ∀ k, k ≤ l.length → smOK l (c + 1) k = smOK l c k
  | 0, _ => rfl
  | k + 1, hk => by
    have ih := smOK_same l c h k (by omega)
    have := h k (by omega)
    rw [smOK, smOK, ih]
    by_cases h1 : (l.getD k (0, 0)).1 ≤ c
    · rw [if_pos h1, if_pos (by omega)]
    · rw [if_neg h1, if_neg (by omega)]
theorem smO_new {l : List (Int × Int)} {c : Int} (h : smO l (c + 1) ≠ smO l c) : ∃ r ∈ l, r.1 = c + 1 := by
  apply Classical.byContradiction
  intro hc
  apply h
  refine smOK_same l c (fun i hi e => hc ⟨l[i], List.getElem_mem hi, ?_⟩) _ (Nat.le_refl _)
  rw [List.getD_eq_getElem?_getD, List.getElem?_eq_getElem hi] at e
  exact e
theorem chK_few {t : Tab} (h : TabR1 t) : ∀ k, k ≤ t.places.length → (chK (manyS t) k).length ≤ cntC (k : Int) t.chunks
  | 0, _ => Nat.zero_le _
  | k + 1, hk => by
    have ih := chK_few h k (by omega)
    have hm := cntC_mono (k : Int) t.chunks
    unfold chK
    by_cases hc : k = 0 ∨ (manyS t).getD k 0 ≠ (manyS t).getD (k - 1) 0
    · rw [if_pos hc, List.length_append]
      have hnew : ∃ r ∈ t.chunks, r.1 = (k : Int) + 1 := by
        rcases Nat.eq_zero_or_pos k with h0 | h0
        · subst h0
          have h1 := chunks_some h (by omega)
          have h2 := (ch_ok h.chunks 0 h1).2.1 rfl
          refine ⟨t.chunks[0], List.getElem_mem h1, ?_⟩
          rw [List.getD_eq_getElem?_getD, List.getElem?_eq_getElem h1] at h2
          exact h2
        · have h1 : (manyS t).getD k 0 ≠ (manyS t).getD (k - 1) 0 := by
            rcases hc with hc | hc
            · omega
            · exact hc
          rw [manyS_at (by omega), manyS_at (by omega)] at h1
          apply smO_new
          rw [show (((k - 1 : Nat) : Int) + 1) = (k : Int) by omega] at h1
          exact h1
      have := cntC_more (k : Int) t.chunks hnew
      show (chK (manyS t) k).length + 1 ≤ cntC ((k + 1 : Nat) : Int) t.chunks
      rw [show ((k + 1 : Nat) : Int) = (k : Int) + 1 by omega]
      omega
    · rw [if_neg hc]
      rw [show ((k + 1 : Nat) : Int) = (k : Int) + 1 by omega]
      omega
theorem few_chunks {t : Tab} (h : TabR1 t) : (cmpT (exS t) (manyS t) t.places).chunks.length ≤ t.chunks.length := by
  have hm : (manyS t).length = t.places.length := mapR_len _ _
  show (chK (manyS t) (manyS t).length).length ≤ _
  rw [hm]
  exact Nat.le_trans (chK_few h _ (Nat.le_refl _)) (cntC_le _ _)
/-- Where the first sample of a chunk lies. -/
theorem spS_first {t : Tab} (h : TabR1 t) {c : Nat} (hc : c < t.places.length) : (spC t c).length < (spS t).length ∧ ((spS t).getD (spC t c).length (0, 0)).1 = t.places.getD c 0 := by
  have h0 := chunks_some h (by omega)
  have h1 := smO_pos h.chunks h0 (c := (c : Int) + 1) (by omega)
  obtain ⟨r, hr⟩ := spC_pre t (c + 1) (t.places.length - (c + 1))
  rw [show c + 1 + (t.places.length - (c + 1)) = t.places.length by omega] at hr
  obtain ⟨q, hq⟩ := spI_pre t (t.places.getD c 0) (spC t c).length 1 ((smO t.chunks ((c : Int) + 1)).toNat - 1)
  rw [show 1 + ((smO t.chunks ((c : Int) + 1)).toNat - 1) = (smO t.chunks ((c : Int) + 1)).toNat by omega] at hq
  have e : spS t = spC t c ++ ((t.places.getD c 0 + (szP t (spC t c).length - szP t (spC t c).length), exSz t (spC t c).length) :: (q ++ r)) := by
    unfold spS
    rw [hr, spC, hq]
    simp [spI]
  rw [e]
  constructor
  · rw [List.length_append, List.length_cons]; omega
  · rw [List.getD_eq_getElem?_getD, List.getElem?_append_right (Nat.le_refl _), Nat.sub_self]
    show t.places.getD c 0 + (szP t (spC t c).length - szP t (spC t c).length) = _
    omega
end Go.Proofs.Ytkdmfkpkelnheaa
namespace Go.Proofs.Ytkdmfkpkelnheaa
open Go.ChangeShapes Go.WideShapes Go.ChangeAt Go.RowKit Go.Joins Go.Deep
section
variable {H : Type} {enc : TypeId × Value → H} {W : World} {base : Nat}
theorem fldPairs {t e : TypeId} {f0 f1 : Field} (hts : Try.prog.underlying t = some (.slice e)) (hte : Try.prog.underlying e = some (.struct #[f0, f1])) (hone : oneCellFields Try.prog #[f0, f1] = true) (hC : Try.prog.cellsOf e = 2)
    (h0 : Try.prog.underlying f0.type = some (.int .i64)) (h1 : Try.prog.underlying f1.type = some (.int .i64)) {n : Nat} {v : Value} {y : DataW H × List MemPlace}
    (h : DataW.trod enc Try.prog W 0 (fun _ => true) true n t [v] = some y) : ∃ A m c l, v = .slice A m c ∧ At W 2 e2 A m c l ∧ Takes y.1 c := by
  obtain ⟨A, m, c, rfl⟩ := fldSlice hts h
  obtain ⟨d, p⟩ := y
  obtain ⟨l, h2, _, h3⟩ := open_structsQ (good := ok2) (en := e2) (sz := 2) hts hte hone hC rfl (by omega) (fun cs n hl hd => by
    obtain ⟨v0, y0, g0, t0⟩ := hd 0 f0 rfl
    obtain ⟨v1, y1, g1, t1⟩ := hd 1 f1 rfl
    obtain ⟨x0, rfl, b0⟩ := fldInt h0 t0
    obtain ⟨x1, rfl, b1⟩ := fldInt h1 t1
    match cs, hl with
    | [c0, c1], _ =>
      simp at g0 g1
      exact ⟨(x0, x1), ⟨b0, b1⟩, by rw [g0, g1]⟩) h
  exact ⟨A, m, c, l, rfl, h2, h3⟩
theorem fldTab {t : TypeId} {n c : Nat} {v : Value} {cs rest : List Value} {xs : List (DataW H × List MemPlace)} {i : Nat} (hc : Try.prog.cellsOf t = 1) (hd : cs.drop c = v :: rest) {y : DataW H × List MemPlace} (hx : xs[i]? = some y)
    (h : DataW.trod enc Try.prog W 0 (fun _ => true) true n t ((cs.drop c).take (Try.prog.cellsOf t)) = xs[i]?) : DataW.trod enc Try.prog W 0 (fun _ => true) true n t [v] = some y := by
  rw [hc, hd, hx] at h; exact h
theorem weights_of {ts : List TypeId} {ds : List (DataW H)} (hsz : (DataW.weightsEach Try.prog ts ds).all (· ≤ reachBytes) = true) (j : Nat) {t : TypeId} (ht : ts[j]? = some t) {d : DataW H} (hd : ds[j]? = some d) :
    (d.weights Try.prog t).all (· ≤ reachBytes) = true := by
  rw [List.all_eq_true] at hsz ⊢
  intro x hx
  exact hsz x (DataW.weights_mem_each ht hd x hx)
set_option maxRecDepth 100000 in
set_option maxHeartbeats 1000000 in
theorem open_table {v : Value} {d : DataW H} {p : List MemPlace} (hv : Value.okWide Try.prog W .any base 27 v) (h : DataW.Trod enc Try.prog W 0 (fun _ => true) true 27 v d p) (hs : (d.weights Try.prog 27).all (· ≤ reachBytes) = true) :
    ∃ t sA sn sc hA hn hc zA zn zc kA kn kc cA cn cc pA pn pc, v = .agg #[.int .i64 (Tab.start t), .slice sA sn sc, .slice hA hn hc, .slice zA zn zc, .slice kA kn kc, .slice cA cn cc, .slice pA pn pc] ∧ TabAt W sA sn sc hA hn hc zA zn zc kA kn kc cA cn cc pA pn pc t ∧ TabSz sn hn zn kn cn pn := by
  obtain ⟨cs, rfl, hsz⟩ := okWide_struct Try.underlying27 hv
  obtain ⟨l⟩ := cs
  have hC : Try.prog.cellsOf 27 = 7 := by kernel_rfl
  have C0 : Try.prog.cellsOf 3 = 1 := by kernel_rfl
  have C1 : Try.prog.cellsOf 24 = 1 := by kernel_rfl
  have C2 : Try.prog.cellsOf 23 = 1 := by kernel_rfl
  have C3 : Try.prog.cellsOf 25 = 1 := by kernel_rfl
  have B1 : Try.prog.bytesOf 58 = 16 := by kernel_rfl
  have B2 : Try.prog.bytesOf 3 = 8 := by kernel_rfl
  have B3 : Try.prog.bytesOf 51 = 16 := by kernel_rfl
  match l, hsz.trans hC with
  | [c0, c1, c2, c3, c4, c5, c6], _ =>
    obtain ⟨fuel, hf⟩ := h
    obtain ⟨xs, n, _, hx, _, hlen, hg⟩ := DataW.trod_struct Try.underlying27 hf
    match xs, hlen with
    | [y0, y1, y2, y3, y4, y5, y6], _ =>
      have hd : d = .agg [y0.1, y1.1, y2.1, y3.1, y4.1, y5.1, y6.1] := (congrArg Prod.fst hx)
      have hw : (DataW.weightsEach Try.prog [3, 24, 24, 23, 23, 25, 23] [y0.1, y1.1, y2.1, y3.1, y4.1, y5.1, y6.1]).all (· ≤ reachBytes) = true := by
        rw [hd] at hs
        simp only [DataW.weights, Try.underlying27] at hs
        exact hs
      obtain ⟨st, rfl, _⟩ := fldInt Try.underlying3 (fldTab (i := 0) (c := 0) C0 rfl rfl (hg 0 _ rfl))
      obtain ⟨sA, sn, sc, S, rfl, hS, k1⟩ := fldPairs Try.underlying24 Try.underlying58 (by kernel_rfl) (by kernel_rfl) Try.underlying3 Try.underlying3 (fldTab (i := 1) (c := 1) C1 rfl rfl (hg 1 _ rfl))
      obtain ⟨hA, hn, hc, SH, rfl, hSH, k2⟩ := fldPairs Try.underlying24 Try.underlying58 (by kernel_rfl) (by kernel_rfl) Try.underlying3 Try.underlying3 (fldTab (i := 2) (c := 2) C1 rfl rfl (hg 2 _ rfl))
      obtain ⟨zA, zn, zc, Z, rfl, hZ, _, k3⟩ := fldIntsP Try.underlying23 Try.underlying3 C0 (fldTab (i := 3) (c := 3) C2 rfl rfl (hg 3 _ rfl))
      obtain ⟨kA, kn, kc, K, rfl, hK, _, k4⟩ := fldIntsP Try.underlying23 Try.underlying3 C0 (fldTab (i := 4) (c := 4) C2 rfl rfl (hg 4 _ rfl))
      obtain ⟨cA, cn, cc, C, rfl, hCC, k5⟩ := fldPairs Try.underlying25 Try.underlying51 (by kernel_rfl) (by kernel_rfl) Try.underlying3 Try.underlying3 (fldTab (i := 5) (c := 5) C3 rfl rfl (hg 5 _ rfl))
      obtain ⟨pA, pn, pc, PP, rfl, hP, _, k6⟩ := fldIntsP Try.underlying23 Try.underlying3 C0 (fldTab (i := 6) (c := 6) C2 rfl rfl (hg 6 _ rfl))
      have b1 := reach_of Try.underlying24 hw 1 rfl rfl k1 hS.le
      have b2 := reach_of Try.underlying24 hw 2 rfl rfl k2 hSH.le
      have b3 := reach_of Try.underlying23 hw 3 rfl rfl k3 hZ.le
      have b4 := reach_of Try.underlying23 hw 4 rfl rfl k4 hK.le
      have b5 := reach_of Try.underlying25 hw 5 rfl rfl k5 hCC.le
      have b6 := reach_of Try.underlying23 hw 6 rfl rfl k6 hP.le
      rw [B1] at b1 b2
      rw [B2] at b3 b4 b6
      rw [B3] at b5
      exact ⟨⟨st, S, SH, Z, K, kA.isNone, C, PP⟩, sA, sn, sc, hA, hn, hc, zA, zn, zc, kA, kn, kc, cA, cn, cc, pA, pn, pc, rfl, ⟨hS, hSH, hZ, hK, by simp, hCC, hP⟩, ⟨by omega, by omega, by omega, by omega, by omega, by omega⟩⟩
end
end Go.Proofs.Ytkdmfkpkelnheaa
namespace Go.Proofs.Ytkdmfkpkelnheaa
open Go.ChangeShapes Go.WideShapes Go.ChangeAt Go.RowKit Go.Joins Go.Deep
section
variable {H : Type} {enc : TypeId × Value → H} {W : World} {base : Nat}
set_option maxRecDepth 100000 in
theorem open_ints {v : Value} {d : DataW H} {p : List MemPlace} (hv : Value.okWide Try.prog W .any base 23 v) (h : DataW.Trod enc Try.prog W 0 (fun _ => true) true 23 v d p) :
    ∃ A n c, ∃ l : List Int, v = .slice A n c ∧ At W 1 e64 A n c l ∧ (∀ x ∈ l, -9223372036854775808 ≤ x ∧ x ≤ 9223372036854775807) ∧ Takes d c := open_intsP Try.underlying23 Try.underlying3 (by kernel_rfl) hv h
end
theorem bytes_int : Try.prog.bytesOf 3 = 8 := by kernel_rfl
/-- Compact of the program, whole. -/
theorem keyCompact_any {A : Option Addr} {n c : Nat} {l : List Smp} {B : Option Addr} {m d : Nat} {ch : List Int} {D : Option Addr} {q r : Nat} {pl : List Int} {w : World} (h : At w 5 eSm A n c l) (hch : At w 1 e64 B m d ch) (hp : At w 1 e64 D q r pl) (hm : m ≤ 17592186044416) :
    Calls Try.prog 6 #[.slice A n c, .slice B m d, .slice D q r] w (CmGives w (cmpT l ch pl) (cmpF l ch pl)) :=
  keyCompact_of h hch hp hm (fun hf W hW => by
    have h1 := chunks_few hf
    rw [h.len, hch.len, hp.len] at h1
    exact keyCompact_in (h.ext hW) (hch.ext hW) (hp.ext hW) h1.1 h1.2.1 h1.2.2)
set_option linter.unusedVariables false in
set_option linter.unusedSimpArgs false in
set_option maxRecDepth 100000 in
set_option maxHeartbeats 16000000 in
theorem cmpback_any {A : Option Addr} {n c : Nat} {l : List Smp} {B : Option Addr} {m d : Nat} {ch : List Int} {D : Option Addr} {q r : Nat} {pl : List Int} {sA : Option Addr} {sn sc : Nat} {hA : Option Addr} {hn hc : Nat} {zA : Option Addr} {zn zc : Nat} {kA : Option Addr} {kn kc : Nat} {cA : Option Addr} {cn cc : Nat} {pA : Option Addr} {pn pc : Nat} {t : Tab} {w : World}
    (h : At w 5 eSm A n c l) (hch : At w 1 e64 B m d ch) (hm : m ≤ 17592186044416) (hp : At w 1 e64 D q r pl) (ht : TabAt w sA sn sc hA hn hc zA zn zc kA kn kc cA cn cc pA pn pc t) (hz : TabSz sn hn zn kn cn pn) :
    Calls Try.prog 5 #[.slice A n c, .slice B m d, .slice D q r, .agg #[.int .i64 t.start, .slice sA sn sc, .slice hA hn hc, .slice zA zn zc, .slice kA kn kc, .slice cA cn cc, .slice pA pn pc]] w fun e w' => e = .returned (.bool true) ∧ Ext w w' := by
  have E0 := hide (Ext.alloc w (.cells #[.int .i64 t.start, .slice sA sn sc, .slice hA hn hc, .slice zA zn zc, .slice kA kn kc, .slice cA cn cc, .slice pA pn pc] 27))
  have X0 := hide (Blk.new w 27 #[.int .i64 t.start, .slice sA sn sc, .slice hA hn hc, .slice zA zn zc, .slice kA kn kc, .slice cA cn cc, .slice pA pn pc])
  have HK := hide (keyCompact_any (h.ext E0.out) (hch.ext E0.out) (hp.ext E0.out) hm)
  have HAW := hide (fun (W : World) => awake_any W)
  have HX := hide (fun (W : World) (hW : Ext w W) => keyExpand_any (ht.ext hW) hz)
  have HL := hide h
  have HTA := hide ht
  have HCF := hide (fun (hf : cmpF l ch pl = 0) => (⟨cmp_right hf, cmp_exS hf, cmp_spl hf, cmp_expF hf⟩ : tabF (cmpT l ch pl) = 0 ∧ exS (cmpT l ch pl) = l ∧ (spS (cmpT l ch pl)).length = l.length ∧ (expF (cmpT l ch pl) = 0 ∨ expF (cmpT l ch pl) = 1)))
  clear h hch hp ht
  generalize cmpF l ch pl = cf at *
  generalize cmpT l ch pl = T1 at *
  go_enter Try.func5, Try.ntmps5
  go_wp2_with fail
  with_reducible refine HK.out.mono ?_
  rintro e w1 ⟨v1, rfl, hv1, e1⟩
  have E1 := hide (Ext.trans E0.out e1)
  have X1 := hide (X0.out.ext e1)
  have HV1 := hide hv1
  clear e1 hv1 HK E0 X0
  have HTV : Hid (cf = 0 → TbV w1 v1 T1) := hide (fun h0 => by have := HV1.out; rw [if_pos h0] at this; exact this)
  obtain ⟨sA1, sn1, sc1, hA1, hn1, hc1, zA1, zn1, zc1, kA1, kn1, kc1, cA1, cn1, cc1, pA1, pn1, pc1, hv, tv⟩ := HV1.out
  generalize hst : (if cf = 0 then T1 else noTab).start = st1 at hv
  subst hv
  clear hst tv HV1
  go_upto_region 2 with (fail)
  refine gen_wpC fun w2 h2 => ?_
  obtain ⟨gx, hgx⟩ : ∃ gx, gx = w1.heap.size := ⟨_, rfl⟩
  rw [← hgx]
  have E12 : Hid (Ext w1 w2) := hide (by rw [h2]; exact Ext.alloc _ _)
  have E2 := hide (Ext.trans E1.out E12.out)
  have X2 := hide (X1.out.ext E12.out)
  have GX : Hid (Blk w2 gx 27 #[.int .i64 st1, .slice sA1 sn1 sc1, .slice hA1 hn1 hc1, .slice zA1 zn1 zc1, .slice kA1 kn1 kc1, .slice cA1 cn1 cc1, .slice pA1 pn1 pc1]) := hide (by rw [h2, hgx]; exact Blk.new _ _ _)
  clear h2 hgx E1 X1
  have x0 : w2.cell? ⟨gx, 0, none⟩ = some (.int .i64 st1) := GX.out.cell 0
  have x1 : w2.cell? ⟨gx, 1, none⟩ = some (.slice sA1 sn1 sc1) := GX.out.cell 1
  have x2 : w2.cell? ⟨gx, 2, none⟩ = some (.slice hA1 hn1 hc1) := GX.out.cell 2
  have x3 : w2.cell? ⟨gx, 3, none⟩ = some (.slice zA1 zn1 zc1) := GX.out.cell 3
  have x4 : w2.cell? ⟨gx, 4, none⟩ = some (.slice kA1 kn1 kc1) := GX.out.cell 4
  have x5 : w2.cell? ⟨gx, 5, none⟩ = some (.slice cA1 cn1 cc1) := GX.out.cell 5
  have x6 : w2.cell? ⟨gx, 6, none⟩ = some (.slice pA1 pn1 pc1) := GX.out.cell 6
  go_upto_if 31 with (fail)
  go_cut [11, 12, 13] (fun _ _ _ wx => Hid (Ext w2 wx))
  case first =>
    by_cases hcf : cf = 0
    case neg =>
      have d0 : (cf == 0) = false := by rw [beq_eq_false_iff_ne]; exact hcf
      clear HTV HCF hcf
      go_wp2_with fail
      go_meet
      exact hide (Ext.refl _)
    case pos =>
      obtain ⟨hT, hS, hP, hF⟩ := HCF.out hcf
      obtain ⟨a1, a2, a3, a4, a5, a6, a7, a8, a9, b1, b2, b3, b4, b5, b6, b7, b8, b9, hv, tv⟩ := (HTV.out hcf).ext E12.out
      injection hv with hv
      injection hv with hv
      simp only [List.cons.injEq, Value.int.injEq, Value.slice.injEq, true_and, and_true] at hv
      obtain ⟨hst, ⟨rfl, rfl, rfl⟩, ⟨rfl, rfl, rfl⟩, ⟨rfl, rfl, rfl⟩, ⟨rfl, rfl, rfl⟩, ⟨rfl, rfl, rfl⟩, ⟨rfl, rfl, rfl⟩⟩ := hv
      subst hst
      have hfw := tab_few (tab_right hT)
      have HXX := hide (keyExpand_any tv ⟨by have := tv.steps.len; omega, by have := tv.shifts.len; omega, by have := tv.sizes.len; omega, by have := tv.keys.len; omega, by have := tv.chunks.len; omega, by have := tv.places.len; omega⟩)
      have HEQ := hide (fun (W : World) (A' : Option Addr) (n' c' : Nat) (hW : Ext w W) (ha : At W 5 eSm A' n' c' l) => smpEq_true (HL.out.ext hW) ha)
      have HLL := hide HL.out.len
      have d0 : (cf == 0) = true := by rw [beq_iff_eq]; exact hcf
      clear tv hfw hcf HTV HCF
      rcases hF with hF | hF
      · have HF := hide hF
        have HS := hide hS
        have HP := hide hP
        clear hF hS hP hT
        go_wp2_with fail
        with_reducible refine HXX.out.mono ?_
        rintro e w3 ⟨A3, n3, c3, B3, m3, d3, rfl, p3, q3, e3⟩
        rw [HF.out, if_pos rfl] at p3 q3
        rw [HF.out]
        rw [HS.out] at p3
        have P3 := hide p3
        have hm3 : m3 = n := by rw [← q3.len, HP.out, HLL.out]
        subst hm3
        have E3 := hide e3
        clear p3 q3 e3 HXX HF HS HP
        have HE3 := hide (HEQ.out _ _ _ _ (Ext.trans E2.out E3.out) P3.out)
        have dn : ((m3 : Int) != (m3 : Int)) = false := by simp
        go_wp2_with fail
        with_reducible refine HE3.out.mono ?_
        rintro e w4 ⟨rfl, e4⟩
        have E4 := hide (Ext.trans E3.out e4)
        clear e4
        go_wp2_with fail
        go_meet
        exact E4
      · have HF := hide hF
        clear hF hS hP hT
        go_wp2_with fail
        with_reducible refine HXX.out.mono ?_
        rintro e w3 ⟨A3, n3, c3, B3, m3, d3, rfl, p3, q3, e3⟩
        rw [HF.out]
        have E3 := hide e3
        clear p3 q3 e3 HXX HF
        go_wp2_with fail
        go_meet
        exact E3
  case rest =>
  obtain ⟨w3, hw3⟩ : ∃ w3, w3 = wc := ⟨_, rfl⟩
  subst hw3
  have E3 := hide (Ext.trans E2.out hcut.out)
  have X3 := hide (X2.out.ext hcut.out)
  clear x0 x1 x2 x3 x4 x5 x6 GX E2 X2 hcut E12 HCF HTV
  have HXW := hide (HX.out _ E3.out)
  have y0 : w3.cell? ⟨w.heap.size, 0, none⟩ = some (.int .i64 t.start) := X3.out.cell 0
  have y1 : w3.cell? ⟨w.heap.size, 1, none⟩ = some (.slice sA sn sc) := X3.out.cell 1
  have y2 : w3.cell? ⟨w.heap.size, 2, none⟩ = some (.slice hA hn hc) := X3.out.cell 2
  have y3 : w3.cell? ⟨w.heap.size, 3, none⟩ = some (.slice zA zn zc) := X3.out.cell 3
  have y4 : w3.cell? ⟨w.heap.size, 4, none⟩ = some (.slice kA kn kc) := X3.out.cell 4
  have y5 : w3.cell? ⟨w.heap.size, 5, none⟩ = some (.slice cA cn cc) := X3.out.cell 5
  have y6 : w3.cell? ⟨w.heap.size, 6, none⟩ = some (.slice pA pn pc) := X3.out.cell 6
  by_cases hx0 : expF t = 0
  case neg =>
    have d0 : (expF t != 0) = true := by simp [hx0]
    have HNZ := hide hx0
    clear hx0
    go_wp2_with fail
    with_reducible refine HXW.out.mono ?_
    rintro e w4 ⟨A4, n4, c4, B4, m4, d4, rfl, p4, q4, e4⟩
    rw [if_neg HNZ.out] at p4
    have h0 : n4 = 0 := p4.len.symm
    subst h0
    have E4 := hide (Ext.trans E3.out e4)
    clear p4 q4 e4
    go_wp2_with fail
    with_reducible refine (HAW.out _).mono ?_
    rintro e w5 ⟨rfl, e5⟩
    have E5 := hide (Ext.trans E4.out e5)
    clear e5
    go_wp2_with fail
    go_ret
    exact ⟨rfl, E5.out⟩
  case pos =>
  have hft : tabF t = 0 := by
    apply Classical.byContradiction
    intro hc
    rw [expF_tab hc] at hx0
    exact hc hx0
  have hR := tab_right hft
  have hf0 := hx0
  clear hx0 hft
  have hfw := tab_few hR
  have l1 := HTA.out.steps.len
  have l2 := HTA.out.shifts.len
  have l3 := HTA.out.sizes.len
  have l5 := HTA.out.chunks.len
  have l6 := HTA.out.places.len
  have HCH := hide HTA.out.chunks
  have HPP := hide HTA.out.places
  have HFIR := hide (fun (c : Nat) (hc : c < pn) => (spS_first hR (c := c) (by omega)))
  have HSL := hide (spS_len hR)
  have HPOS := hide (fun (c : Nat) (hc : c < pn) => (smO_pos hR.chunks (chunks_some hR (by omega)) (c := (c : Int) + 1) (by omega)))
  have HMB := hide (fun (c : Int) => smO_bd hR.chunks c)
  have HKB := hide (fun (c : Int) (k : Nat) (hk : k ≤ cn) => (smOK_bd hR.chunks c k (by omega)))
  have HCF2 := hide (exp_cmpF hR)
  have HMS : Hid (manyS t = mapR pn (fun c => smO t.chunks ((c : Int) + 1))) := hide (by unfold manyS; rw [l6])
  have F1 := hide (few_steps (t := t))
  have F2 := hide (few_shifts hR)
  have F3 := hide (few_sizes hR)
  have F5 := hide (few_chunks hR)
  have HSO : Hid (∀ c, smO t.chunks c = smOK t.chunks c cn) := hide (fun c => by unfold smO; rw [l5])
  have HN5 : Hid (exN t ≤ 5000) := hide (by have h1 := exN_eq hR; have h2 := hR.few; omega)
  have L1 := hide l1
  have L2 := hide l2
  have L3 := hide l3
  have L5 := hide l5
  have hpn : pn ≤ 5000 := by omega
  have hcn : cn ≤ 5000 := by omega
  obtain ⟨i0_, hi0, hz0, hz1, hz2⟩ := info_parts Try.info3
  clear hR hfw l1 l2 l3 l5 l6
  have HF0 := hide hf0

  have d0 : ((0 : Int) != 0) = false := by simp
  clear hf0
  go_wp2_with fail
  with_reducible refine HXW.out.mono ?_
  rintro e w4 ⟨A4, n4, c4, B4, m4, d4, rfl, p4, q4, e4⟩
  rw [HF0.out, if_pos rfl] at p4 q4
  rw [HF0.out]
  have hm4 : m4 = exN t := by rw [← q4.len, HSL.out]
  subst hm4
  have P4 := hide p4
  have Q4 := hide q4
  have E4 := hide (Ext.trans E3.out e4)
  have X4 := hide (X3.out.ext e4)
  clear p4 q4 e4 E3 X3 HXW y0 y1 y2 y3 y4 y5 y6 HSL
  have g5 : w4.cell? ⟨w.heap.size, 5, none⟩ = some (.slice cA cn cc) := X4.out.cell 5
  have g6 : w4.cell? ⟨w.heap.size, 6, none⟩ = some (.slice pA pn pc) := X4.out.cell 6
  obtain ⟨N, hN⟩ : ∃ N, exN t = N := ⟨_, rfl⟩
  rw [hN] at Q4 HN5 ⊢
  have HLN := hide (fun (i : Nat) (hi : i < (spS t).length) => (by have := Q4.out.len; omega : i < N))
  clear hN
  go_wp2_with fail
  go_loopw [17, 18, 19] (fun r17 ri rc wr => ∃ k : Nat, k ≤ pn ∧ rc = .int .i64 k ∧ ri = .int .i64 ((spC t k).length : Nat) ∧ Hid (Own wr w4.heap.size 3 1 e64 r17 (mapR k (fun c => smO t.chunks ((c : Int) + 1)))) ∧ Hid (Ext w4 wr)) (fun _ _ rc _ => pn - (intOf rc).toNat)
  case atStart => exact ⟨0, by omega, rfl, rfl, hide (Own.nil _ _ _ _ _), hide (Ext.refl _)⟩
  case round =>
    obtain ⟨k, hk, rfl, rfl, HO, HY⟩ := hrel
    obtain ⟨wo, hwo⟩ : ∃ wo, wo = wr := ⟨_, rfl⟩
    subst hwo
    have u5 := HY.out.cell g5
    have u6 := HY.out.cell g6
    by_cases hlt : k < pn
    · have i1 : (k : Int) < (pn : Int) := by omega
      have i0 : (0 : Int) ≤ (k : Int) := by omega
      have i8 : IntKind.i64.wrap ((k : Int) + 1) = (k : Int) + 1 := by rw [IntKind.wrap_i64]; omega
      go_wp2_with fail
      go_loopw [20, 21] (fun r20 rq wi => ∃ q : Nat, q ≤ cn ∧ rq = .int .i64 q ∧ r20 = .int .i64 (smOK t.chunks ((k : Int) + 1) q) ∧ Hid (wo = wi)) (fun _ rq _ => cn - (intOf rq).toNat)
      case atStart => exact ⟨0, by omega, rfl, rfl, hide rfl⟩
      case round =>
        obtain ⟨q, hq, rfl, rfl, hw⟩ := hrel
        have hw := hw.out
        subst hw
        by_cases hqc : q < cn
        · obtain ⟨b, off, rfl, _⟩ := HCH.out.addr (by omega)
          obtain ⟨a0, a1⟩ := ((HCH.out.ext E4.out).ext HY.out).pair hqc
          have HSK : Hid (smOK t.chunks ((k : Int) + 1) (q + 1) = if (t.chunks.getD q (0, 0)).1 ≤ (k : Int) + 1 then (t.chunks.getD q (0, 0)).2 else smOK t.chunks ((k : Int) + 1) q) := hide rfl
          generalize (t.chunks.getD q (0, 0)).1 = x at *
          generalize (t.chunks.getD q (0, 0)).2 = y at *
          have q1 : (q : Int) < (cn : Int) := by omega
          have q0 : (0 : Int) ≤ (q : Int) := by omega
          have q8 : IntKind.i64.wrap ((q : Int) + 1) = (q : Int) + 1 := by rw [IntKind.wrap_i64]; omega
          by_cases hx : x ≤ (k : Int) + 1
          · have HS2 : Hid (smOK t.chunks ((k : Int) + 1) (q + 1) = y) := hide (by rw [HSK.out, if_pos hx])
            clear HSK
            go_wp2_with fail
            exact ⟨⟨q + 1, by omega, by go_num, by rw [HS2.out], hide (by first | rfl | trivial)⟩, by simp [intOf]; omega⟩
          · have HS2 : Hid (smOK t.chunks ((k : Int) + 1) (q + 1) = smOK t.chunks ((k : Int) + 1) q) := hide (by rw [HSK.out, if_neg hx])
            clear HSK
            go_wp2_with fail
            exact ⟨⟨q + 1, by omega, by go_num, by rw [HS2.out], hide (by first | rfl | trivial)⟩, by simp [intOf]; omega⟩
        · obtain rfl : q = cn := by omega
          rw [← HSO.out]
          obtain ⟨f1, f2⟩ := HFIR.out k hlt
          have f3 := HLN.out _ f1
          have hpos := HPOS.out k hlt
          have hmb := HMB.out ((k : Int) + 1)
          obtain ⟨b, off, rfl, _⟩ := Q4.out.addr (by omega)
          obtain ⟨pb, po, rfl, _⟩ := HPP.out.addr (by omega)
          obtain ⟨a0, a1⟩ := (Q4.out.ext HY.out).pair f3
          have a2 := ((HPP.out.ext E4.out).ext HY.out).num hlt
          rw [f2] at a0
          have HSU : Hid ((spC t (k + 1)).length = (spC t k).length + (smO t.chunks ((k : Int) + 1)).toNat) := hide (by rw [spC, List.length_append, spI_len])
          have HMR : Hid (mapR (k + 1) (fun c => smO t.chunks ((c : Int) + 1)) = mapR k (fun c => smO t.chunks ((c : Int) + 1)) ++ [smO t.chunks ((k : Int) + 1)]) := hide (mapR_succ _ _)
          have hml : (mapR k (fun c => smO t.chunks ((c : Int) + 1))).length = k := mapR_len _ _
          have S1 : Hid ((mapR k (fun c => smO t.chunks ((c : Int) + 1))).length + 1 ≤ maxLen) := hide (by rw [hml]; unfold maxLen; omega)
          have S2 : Hid (((mapR k (fun c => smO t.chunks ((c : Int) + 1))).length + 1) * 8 ≤ 140737488355328) := hide (by rw [hml]; omega)
          generalize t.places.getD k 0 = p at *
          generalize mapR k (fun c => smO t.chunks ((c : Int) + 1)) = L0 at *
          obtain ⟨mm, hmm⟩ : ∃ mm : Nat, smO t.chunks ((k : Int) + 1) = (mm : Int) := ⟨(smO t.chunks ((k : Int) + 1)).toNat, by omega⟩
          rw [hmm] at hpos hmb HSU HMR ⊢
          rw [Int.toNat_natCast] at HSU
          generalize (spC t k).length = s at *
          have hN5 := HN5.out
          have j1 : (0 : Int) < (mm : Int) := by omega
          have j2 : ¬ (N : Int) ≤ (s : Int) := by omega
          have j2b : decide ((N : Int) ≤ (s : Int)) = false := decide_eq_false j2
          have j2c : decide (N ≤ s) = false := by rw [decide_eq_false_iff_not]; omega
          have j2d : ¬ N ≤ s := by omega
          have j1b : decide ((0 : Int) < (mm : Int)) = true := decide_eq_true j1
          have j1c : decide (0 < mm) = true := by rw [decide_eq_true_iff]; omega
          have j3 : (p != p) = false := by simp
          have j4 : (s : Int) < (N : Int) := by omega
          have j5 : (0 : Int) ≤ (s : Int) := by omega
          have j6 : IntKind.i64.wrap ((s : Int) + (mm : Int)) = (s : Int) + (mm : Int) := by rw [IntKind.wrap_i64]; omega
          have S3 : Hid (w4.heap.size ≤ ((wo.drew).alloc (.cells #[.int .i64 (mm : Int)] 3)).heap.size) := hide (by have := HY.out.size; rw [World.size_alloc]; show w4.heap.size ≤ wo.heap.size + 1; omega)
          have O1 := hide (HO.out.ext (Ext.trans (Ext.drew wo) (Ext.alloc (World.drew wo) (.cells #[.int .i64 (mm : Int)] 3))))
          have EYA := hide (Ext.trans HY.out (Ext.trans (Ext.drew wo) (Ext.alloc (World.drew wo) (.cells #[.int .i64 (mm : Int)] 3))))
          clear hqc hq f1 f2 hml hmm
          go_upto_region 21 with (fail)
          go_cut [122] (fun sv wx => sv = .bool false ∧ wo.drew = wx)
          case first =>
            first | (go_wp2_with fail; go_meet; exact ⟨rfl, rfl⟩) | (go_region; go_wp2_with fail; go_meet; exact ⟨rfl, rfl⟩)
          case rest =>
          obtain ⟨rfl, rfl⟩ := hcut
          go_wp2_with (at_builtin; refine wpList_append_at _ rfl (.tmp 126) (.tmp 128) 23 rfl w4.heap.size 3 i0_ _ 8 Try.underlying23 hi0 hz0 hz1 hz2 rfl (by omega) len_e64 one_e64 _ _ (by rfl) O1.out (some ⟨wo.heap.size, 0, none⟩) 1 1 [(mm : Int)] (by rfl) (At.new1 (World.drew wo) (mm : Int) _ rfl _) S1.out S2.out S3.out ?_; intro v7 w7 o7 g7 _ _; have O7 := hide o7; have G7 := hide g7; clear o7 g7)
          have E7 := hide (Own.below O1.out EYA.out G7.out (Nat.le_refl _))
          exact ⟨⟨k + 1, by omega, by go_num, int_val (by rw [HSU.out]; omega), hide (by rw [HMR.out]; exact O7.out), E7⟩, by simp [intOf]; omega⟩
    · obtain rfl : k = pn := by omega
      rw [← HMS.out] at HO
      have hml : (manyS t).length = k := by rw [HMS.out]; exact mapR_len _ _
      obtain ⟨mA, mc, hv, _⟩ := HO.out.at_ len_e64
      rw [hml] at hv
      subst hv
      have HKK := hide (keyCompact_any (P4.out.ext HY.out) (HO.out.atS len_e64) ((HPP.out.ext E4.out).ext HY.out) (by omega))
      have X5 := hide (X4.out.ext HY.out)
      have E5 := hide (Ext.trans E4.out HY.out)
      have u6 := HY.out.cell g6
      clear hlt hk hml HO HY HFIR HPOS HMB HKB HMS HSO HLN P4 Q4 X4 E4 g5 g6 u5
      go_wp2_with fail
      with_reducible refine HKK.out.mono ?_
      rintro e w5 ⟨v5, rfl, tv5, e5⟩
      rw [HCF2.out, if_pos rfl] at tv5
      rw [HCF2.out]
      generalize cmpT (exS t) (manyS t) t.places = T2 at *
      obtain ⟨sA5, sn5, sc5, hA5, hn5, hc5, zA5, zn5, zc5, kA5, kn5, kc5, cA5, cn5, cc5, pA5, pn5, pc5, rfl, t5⟩ := tv5
      have c1 : sn5 ≤ sn := by have h1 := t5.steps.len; have h2 := F1.out; have h3 := L1.out; omega
      have c2 : hn5 ≤ hn := by have h1 := t5.shifts.len; have h2 := F2.out; have h3 := L2.out; omega
      have c3 : zn5 ≤ zn := by have h1 := t5.sizes.len; have h2 := F3.out; have h3 := L3.out; omega
      have c5 : cn5 ≤ cn := by have h1 := t5.chunks.len; have h2 := F5.out; have h3 := L5.out; omega
      have d1 : decide ((sn5 : Int) ≤ (sn : Int)) = true := by rw [decide_eq_true_iff]; omega
      have d2 : decide ((hn5 : Int) ≤ (hn : Int)) = true := by rw [decide_eq_true_iff]; omega
      have d3 : decide ((zn5 : Int) ≤ (zn : Int)) = true := by rw [decide_eq_true_iff]; omega
      have d5 : decide ((cn5 : Int) ≤ (cn : Int)) = true := by rw [decide_eq_true_iff]; omega
      have X6 := hide (X5.out.ext e5)
      have E6 := hide (Ext.trans E5.out e5)
      clear e5 t5 HKK X5 E5 u6 F1 F2 F3 F5 L1 L2 L3 L5 HCF2
      go_upto_region 26 with (fail)
      refine gen_wpC fun w6 h6 => ?_
      obtain ⟨gz, hgz⟩ : ∃ gz, gz = w5.heap.size := ⟨_, rfl⟩
      rw [← hgz]
      have GZ : Hid (Blk w6 gz 27 #[.int .i64 T2.start, .slice sA5 sn5 sc5, .slice hA5 hn5 hc5, .slice zA5 zn5 zc5, .slice kA5 kn5 kc5, .slice cA5 cn5 cc5, .slice pA5 pn5 pc5]) := hide (by rw [h6, hgz]; exact Blk.new _ _ _)
      have E7 := hide (show Ext w w6 from by rw [h6]; exact Ext.trans E6.out (Ext.alloc _ _))
      have X7 := hide (show Blk w6 w.heap.size 27 #[.int .i64 t.start, .slice sA sn sc, .slice hA hn hc, .slice zA zn zc, .slice kA kn kc, .slice cA cn cc, .slice pA k pc] from by rw [h6]; exact X6.out.alloc _)
      clear h6 hgz E6 X6
      have x1 : w6.cell? ⟨gz, 1, none⟩ = some (.slice sA5 sn5 sc5) := GZ.out.cell 1
      have x2 : w6.cell? ⟨gz, 2, none⟩ = some (.slice hA5 hn5 hc5) := GZ.out.cell 2
      have x3 : w6.cell? ⟨gz, 3, none⟩ = some (.slice zA5 zn5 zc5) := GZ.out.cell 3
      have x5 : w6.cell? ⟨gz, 5, none⟩ = some (.slice cA5 cn5 cc5) := GZ.out.cell 5
      have y1 : w6.cell? ⟨w.heap.size, 1, none⟩ = some (.slice sA sn sc) := X7.out.cell 1
      have y2 : w6.cell? ⟨w.heap.size, 2, none⟩ = some (.slice hA hn hc) := X7.out.cell 2
      have y3 : w6.cell? ⟨w.heap.size, 3, none⟩ = some (.slice zA zn zc) := X7.out.cell 3
      have y5 : w6.cell? ⟨w.heap.size, 5, none⟩ = some (.slice cA cn cc) := X7.out.cell 5
      go_wp2_with fail
      with_reducible refine (HAW.out _).mono ?_
      rintro e w7 ⟨rfl, e7⟩
      have E8 := hide (Ext.trans E7.out e7)
      clear e7
      go_wp2_with fail
      go_ret
      exact ⟨rfl, E8.out⟩
set_option maxRecDepth 100000 in
theorem boxCompactsComeBack_lifted (os : Os) (started : os.Started) (H : Type) (enc : TypeId × Value → H) :
    ReturnsInHanded {} Try.checked os 5 .any (Rows.boxCompactsComeBackSpec.pre6 enc Try.prog Try.f5 Rows.boxCompactsComeBackRow.domain false) (Rows.boxCompactsComeBackSpec.post enc Try.prog Try.f5 false true false false) := by
  refine returnsInHanded_of_change_sized (C := Try.checked) Try.own started (by kernel_rfl) Try.func5
    (ChangeSpec.witness6 (enc := enc) (C := Try.checked) false ⟨#[], #[.slice none 0 0, .slice none 0 0, .slice none 0 0, .agg #[.int .i64 0, .slice none 0 0, .slice none 0 0, .slice none 0 0, .slice none 0 0, .slice none 0 0, .slice none 0 0]], []⟩ 8 (by kernel_rfl) (by kernel_rfl) (by kernel_rfl) (by kernel_rfl)) ?_
  intro W base args ds gs before hval0 hW _ hsz0 _
  have hsz : (DataW.weightsEach Try.prog (Try.f5.params.toList ++ Rows.boxCompactsComeBackSpec.plain.varTypes Try.prog) (ds ++ gs)).all (· ≤ reachBytes) = true := hsz0
  have hval : ∀ (j : Nat) t v, Try.f5.params[j]? = some t → args[j]? = some v → Value.okWide Try.prog W .any base t v := hval0
  have hW' := hW
  obtain ⟨p, q, hA0, hV, rfl, _, _⟩ := hW
  have hA : DataW.TrodAll enc Try.prog W 0 (fun _ => true) true Try.f5.params.toList args.toList ds p := hA0
  rw [Try.params5] at hA hval hsz
  obtain ⟨v0, v1, v2, v3, d0, d1, d2, d3, p0, p1, p2, p3, rfl, rfl, rfl, h0, h1, h2, h3⟩ := trodAll_four hA
  obtain ⟨A0, n0, c0, l0, rfl, hAt0, _, _⟩ := open_samples (hval 0 22 v0 rfl rfl) h0
  obtain ⟨A1, n1, c1, l1, rfl, hAt1, _, hT1⟩ := open_ints (hval 1 23 v1 rfl rfl) h1
  have hb1 := reach_of Try.underlying23 hsz 1 rfl rfl hT1 hAt1.le
  rw [bytes_int] at hb1
  obtain ⟨A2, n2, c2, l2, rfl, hAt2, _, _⟩ := open_ints (hval 2 23 v2 rfl rfl) h2
  obtain ⟨t3, sA3, sn3, sc3, hA3, hn3, hc3, zA3, zn3, zc3, kA3, kn3, kc3, cA3, cn3, cc3, pA3, pn3, pc3, rfl, hTa3, hTz3⟩ := open_table (hval 3 27 v3 rfl rfl) h3 (weights_of hsz 3 rfl rfl)
  refine (cmpback_any hAt0 hAt1 (by omega) hAt2 hTa3 hTz3).mono fun e W' ⟨he, hE⟩ => ?_
  subst he
  exact ⟨_, rfl, law_post Try.laidOut Try.underlying4 hW' rfl rfl rfl (by kernel_rfl) hE⟩
theorem boxCompactsComeBack_closed : joinedFacts Try.prog 5 Try.f5 Rows.boxCompactsComeBackSpec Rows.boxCompactsComeBackRow = true :=
  joined_of Try.laidOut Try.mapsRowed Try.plainKeys Try.stopsHeard Try.stopsNone Try.knobsNone Try.mayEnter Try.makeCut Try.liftsFinal rfl rfl rfl (by as_aux_lemma => kernel_rfl)
    (by as_aux_lemma => kernel_rfl) (by as_aux_lemma => kernel_rfl) (by as_aux_lemma => kernel_rfl) (by as_aux_lemma => kernel_rfl) (by as_aux_lemma => kernel_rfl) (by as_aux_lemma => kernel_rfl) (by as_aux_lemma => kernel_rfl) (by as_aux_lemma => kernel_rfl) (by as_aux_lemma => kernel_rfl) (by as_aux_lemma => kernel_rfl)
theorem boxCompactsComeBack_holds : Rows.BoxCompactsComeBackSaid :=
  OpenClaim.holds_of_wide 5 Try.f5 rfl rfl rfl rfl rfl rfl rfl ⟨rfl, rfl, rfl, rfl, rfl⟩ rfl rfl rfl rfl rfl (by as_aux_lemma => kernel_rfl) Try.func5 boxCompactsComeBack_closed
    (of_decide_eq_true (by kernel_rfl)) (by unfold Func.isWrapper; first | (rw [if_pos (by decide +kernel)]; kernel_rfl) | (rw [if_neg (by decide +kernel)]; exact ⟨rfl, rfl⟩))
    (fun os started H enc _ => boxCompactsComeBack_lifted os started H enc)
#print axioms boxCompactsComeBack_holds
end Go.Proofs.Ytkdmfkpkelnheaa
