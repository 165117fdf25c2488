/- Several texts in one: Arguments that are slices of one-cell elements (strings, slices), read as lists. Conditions as stated; Films and players in an argument, opened. Conditions as stated. -/
import Derived.Test.YtfelgolfebhmkaaDoorMtm47
import Derived.Test.YtfelgolfebhmkaaDoorMtm19
import Derived.Test.YtfelgolfebhmkaaDoorMtm07
namespace Go.Proofs.YtfelgolfebhmkaaDoor
open Go.ChangeShapes Go.WideShapes Go.ChangeAt Go.RowKit Go.Joins Go.Deep
section
variable {H : Type} {enc : TypeId × Value → H} {P : Program}
theorem open_onesQ {α : Type} {en : α → List Value} {good : α → Prop} {t e : TypeId} (hts : P.underlying t = some (.slice e)) (hC : P.cellsOf e = 1) {W : World}
    (dec : ∀ (v : Value) (n : Nat) (y : DataW H × List MemPlace), DataW.trod enc P W 0 (fun _ => true) true n e [v] = some y → ∃ x : α, good x ∧ en x = [v])
    {A : Option Addr} {n c fuel : Nat} {d : DataW H} {p : List MemPlace} (hf : DataW.trod enc P W 0 (fun _ => true) true fuel t [.slice A n c] = some (d, p)) :
    ∃ l, At W 1 en A n c l ∧ (∀ x ∈ l, good x) ∧ Takes d c := by
  rcases open_slice hts hf with ⟨hcs, hx⟩ | ⟨a, len, cap, m, k, D, Pl, hcs, _, hl, hm, hmm, hx, hi⟩
  · simp at hcs
    obtain ⟨rfl, rfl, rfl⟩ := hcs
    simp only [Prod.mk.injEq] at hx
    exact ⟨[], At.nil _ _ _, fun x hx => by simp at hx, .inl ⟨hx.1, rfl⟩⟩
  · simp at hcs
    obtain ⟨rfl, rfl, rfl⟩ := hcs
    simp only [Prod.mk.injEq] at hx
    simp only [if_true] at hmm
    subst hmm
    have hT : Takes d m := .inr ⟨_, _, hx.1, by simp; omega⟩
    rcases Nat.eq_zero_or_pos m with h0 | h0
    · subst h0
      obtain rfl : n = 0 := by omega
      exact ⟨[], ⟨rfl, Nat.le_refl _, hm, fun h => (by cases h), fun k x hx => by simp at hx⟩, fun x hx => by simp at hx, hT⟩
    · have hsz0 : ∀ i, i < m → ∃ u, W.cell? ((a.add (i * 1)).add 0) = some u ∧ ∃ x, good x ∧ en x = [u] := by
        intro i him
        obtain ⟨cs', hc, ht'⟩ := hi i him
        rw [hC] at hc
        obtain ⟨_, hcl, hat⟩ := World.cells?_some hc
        match cs', hcl with
        | [u], _ => exact ⟨u, by have := hat 0 (by omega); simpa using this, dec u _ _ ht'⟩
      obtain ⟨b, off, spot⟩ := a
      have hs : spot = none := by
        obtain ⟨u, h1, _⟩ := hsz0 0 h0
        have h4 : (((⟨b, off, spot⟩ : Addr).add (0 * 1)).add 0) = ⟨b, off, spot⟩ := by rw [Nat.zero_mul]; unfold Addr.add; rfl
        rw [h4] at h1
        exact cell_spot h1
      subst hs
      obtain ⟨l, h1, h2⟩ := At.of_key (w := W) (sz := 1) (enc := en) (good := good) (b := b) (off := off) hl hm (fun i hin => by
        obtain ⟨u, g1, x, hx, he⟩ := hsz0 i (by omega)
        refine ⟨x, hx, fun j v hu => ?_⟩
        rw [he] at hu
        match j, hu with
        | 0, hu =>
          simp at hu; subst hu
          rw [add_of_add, Addr.add_lit] at g1
          rw [show off + i * 1 + 0 = off + (i * 1 + 0) by omega]
          exact g1
        | j + 1, hu => simp at hu)
      exact ⟨l, h1, h2, hT⟩
theorem fldIntsP {t e : TypeId} (hts : P.underlying t = some (.slice e)) (hte : P.underlying e = some (.int .i64)) (htc : P.cellsOf e = 1) {W : World} {n : Nat} {v : Value} {y : DataW H × List MemPlace}
    (h : DataW.trod enc P W 0 (fun _ => true) true n t [v] = some y) : ∃ A n c, ∃ l : List Int, v = .slice A n c ∧ At W 1 e64 A n c l ∧ (∀ x ∈ l, -9223372036854775808 ≤ x ∧ x ≤ 9223372036854775807) ∧ Takes y.1 c := by
  have hv : ∃ A n c, v = .slice A n c := by
    rcases open_ints hts hte htc h with ⟨hcs, _⟩ | ⟨a, len, cap, zs, hcs, _⟩
    · injection hcs with hcs _; exact ⟨_, _, _, hcs⟩
    · injection hcs with hcs _; exact ⟨_, _, _, hcs⟩
  obtain ⟨A, k, c, rfl⟩ := hv
  obtain ⟨d, p⟩ := y
  obtain ⟨l, h1, h2, h3⟩ := open_intsQ hts hte htc h
  exact ⟨A, k, c, l, rfl, h1, h2, h3⟩
theorem fldSlice {t e : TypeId} (hts : P.underlying t = some (.slice e)) {W : World} {n : Nat} {v : Value} {y : DataW H × List MemPlace}
    (h : DataW.trod enc P W 0 (fun _ => true) true n t [v] = some y) : ∃ A n c, v = .slice A n c := by
  rcases open_slice hts h with ⟨hcs, _⟩ | ⟨a, len, cap, m, k, D, Pl, hcs, _⟩
  · injection hcs with hcs _; exact ⟨_, _, _, hcs⟩
  · injection hcs with hcs _; exact ⟨_, _, _, hcs⟩
theorem At.map1 {α β : Type} {w : World} {sz : Nat} {en : α → List Value} {em : β → List Value} {A : Option Addr} {n c : Nat} {l : List α} (f : α → β) (he : ∀ x, en x = em (f x)) (h : At w sz en A n c l) : At w sz em A n c (l.map f) :=
  ⟨by have := h.len; simpa using this, h.le, h.max, h.none_, fun k x hx => by
    rw [List.getElem?_map] at hx
    cases hl : l[k]? with
    | none => rw [hl] at hx; cases hx
    | some y =>
      rw [hl] at hx
      simp at hx; subst hx
      obtain ⟨b, off, e, hc⟩ := h.cells k y hl
      exact ⟨b, off, e, fun j u hu => hc j u (by rw [he]; exact hu)⟩⟩
theorem fldRowsP {t e q : TypeId} (hts : P.underlying t = some (.slice e)) (hC : P.cellsOf e = 1) (hte : P.underlying e = some (.slice q)) (htq : P.underlying q = some (.int .i64)) (hq : P.cellsOf q = 1) {W : World} {n : Nat} {v : Value} {y : DataW H × List MemPlace}
    (h : DataW.trod enc P W 0 (fun _ => true) true n t [v] = some y) : ∃ A n c, ∃ S : List (List Int), v = .slice A n c ∧ Rws W A n c S ∧ ∀ l ∈ S, ∀ x ∈ l, -9223372036854775808 ≤ x ∧ x ≤ 9223372036854775807 := by
  obtain ⟨A, k, c, rfl⟩ := fldSlice hts h
  obtain ⟨d, p⟩ := y
  obtain ⟨l, h1, h2, _⟩ := open_onesQ (α := (Option Addr × Nat × Nat) × List Int) (en := fun x => eH x.1) (good := fun x => At W 1 e64 x.1.1 x.1.2.1 x.1.2.2 x.2 ∧ ∀ z ∈ x.2, -9223372036854775808 ≤ z ∧ z ≤ 9223372036854775807) hts hC
    (fun v n y hy => by
      obtain ⟨A, n, c, l, rfl, g1, g2, _⟩ := fldIntsP hte htq hq hy
      exact ⟨((A, n, c), l), ⟨g1, g2⟩, rfl⟩) h
  have h2 : ∀ x ∈ l, At W 1 e64 x.1.1 x.1.2.1 x.1.2.2 x.2 ∧ ∀ z ∈ x.2, -9223372036854775808 ≤ z ∧ z ≤ 9223372036854775807 := h2
  have hl := h1.len
  have hm : At W 1 eH A k c (l.map Prod.fst) := At.map1 (en := fun x => eH x.1) Prod.fst (fun _ => rfl) h1
  refine ⟨A, k, c, l.map (·.2), rfl, ⟨by simpa using hl, l.map Prod.fst, hm, fun i hi => ?_⟩, fun r hr => ?_⟩
  · have hil : i < l.length := by omega
    have hx := (h2 (l[i]'hil) (List.getElem_mem hil)).1
    simp only [List.getD, List.getElem?_map, List.getElem?_eq_getElem hil, Option.map_some, Option.getD_some]
    exact hx
  · obtain ⟨x, hx, rfl⟩ := List.mem_map.1 hr
    exact (h2 x hx).2
end
theorem cellsInt : Tryd.prog.cellsOf 3 = 1 := by kernel_rfl
theorem cellsInts : Tryd.prog.cellsOf 22 = 1 := by kernel_rfl
theorem cellsWts : Tryd.prog.cellsOf 27 = 3 := by kernel_rfl
section
variable {H : Type} {enc : TypeId × Value → H} {W : World} {base : Nat}
set_option maxRecDepth 100000 in
theorem open_show {v : Value} {d : DataW H} {p : List MemPlace} (hv : Value.okWide Tryd.prog W .any base 25 v) (h : DataW.Trod enc Tryd.prog W 0 (fun _ => true) true 25 v d p) :
    ∃ lA ln lc sA sn sc qA qn qc L S Q, v = shV lA ln lc sA sn sc qA qn qc ∧ Shw W lA ln lc sA sn sc qA qn qc L S Q := by
  obtain ⟨v0, v1, v2, y0, y1, y2, n, rfl, _, _, h0, h1, h2⟩ := open_agg3 Tryd.underlying25 (by kernel_rfl) (by kernel_rfl) hv h
  obtain ⟨lA, ln, lc, L, rfl, hL, _, _⟩ := fldIntsP Tryd.underlying22 Tryd.underlying3 cellsInt h0
  obtain ⟨sA, sn, sc, S, rfl, hS, _⟩ := fldRowsP Tryd.underlying23 cellsInts Tryd.underlying22 Tryd.underlying3 cellsInt h1
  obtain ⟨qA, qn, qc, Q, rfl, hQ, _, _⟩ := fldIntsP Tryd.underlying22 Tryd.underlying3 cellsInt h2
  exact ⟨lA, ln, lc, sA, sn, sc, qA, qn, qc, L, S, Q, rfl, hL, hS, hQ⟩
theorem fldIntC {c : Nat} {t : TypeId} {n : Nat} {v : Value} {rest : List Value} {y : DataW H × List MemPlace} (ht : Tryd.prog.underlying t = some (.int .i64)) (hc : Tryd.prog.cellsOf t = 1) {cs : List Value} (hd : cs.drop c = v :: rest)
    (h : DataW.trod enc Tryd.prog W 0 (fun _ => true) true n t ((cs.drop c).take (Tryd.prog.cellsOf t)) = some y) : ∃ x, v = .int .i64 x := by
  rw [hc, hd] at h
  obtain ⟨x, rfl, _⟩ := fldInt ht h
  exact ⟨x, rfl⟩
theorem fldSub {c k : Nat} {t : TypeId} {n : Nat} {vs : List Value} {y : DataW H × List MemPlace} (hc : Tryd.prog.cellsOf t = k) {cs : List Value} (hd : (cs.drop c).take k = vs)
    (h : DataW.trod enc Tryd.prog W 0 (fun _ => true) true n t ((cs.drop c).take (Tryd.prog.cellsOf t)) = some y) : DataW.trod enc Tryd.prog W 0 (fun _ => true) true n t vs = some y := by
  rw [hc, hd] at h; exact h
set_option maxRecDepth 100000 in
set_option maxHeartbeats 1000000 in
theorem open_player {v : Value} {d : DataW H} {p : List MemPlace} (hv : Value.okWide Tryd.prog W .any base 29 v) (h : DataW.Trod enc Tryd.prog W 0 (fun _ => true) true 29 v d p) :
    ∃ a0 a1 a2 a3 a4 a5 a6 a7 a8 a9 a10 a11 a12 a13, v = plV a0 a1 a2 a3 a4 a5 a6 a7 a8 a9 a10 a11 a12 a13 := by
  obtain ⟨cs, rfl, hsz⟩ := okWide_struct Tryd.underlying29 hv
  obtain ⟨l⟩ := cs
  have hC : Tryd.prog.cellsOf 29 = 14 := by kernel_rfl
  match l, hsz.trans hC with
  | [c0, c1, c2, c3, c4, c5, c6, c7, c8, c9, c10, c11, c12, c13], _ =>
    obtain ⟨fuel, hf⟩ := h
    obtain ⟨xs, n, _, hx, _, hlen, hg⟩ := DataW.trod_struct Tryd.underlying29 hf
    match xs, hlen with
    | [y0, y1, y2, y3, y4, y5, y6, y7, y8, y9, y10, y11], _ =>
      obtain ⟨x0, rfl⟩ := fldIntC (c := 0) Tryd.underlying3 cellsInt rfl (hg 0 _ rfl)
      obtain ⟨x1, rfl⟩ := fldIntC (c := 1) Tryd.underlying3 cellsInt rfl (hg 1 _ rfl)
      obtain ⟨x2, rfl⟩ := fldIntC (c := 2) Tryd.underlying3 cellsInt rfl (hg 2 _ rfl)
      obtain ⟨x3, rfl⟩ := fldIntC (c := 3) Tryd.underlying3 cellsInt rfl (hg 3 _ rfl)
      obtain ⟨x4, rfl⟩ := fldIntC (c := 4) Tryd.underlying3 cellsInt rfl (hg 4 _ rfl)
      obtain ⟨x5, rfl⟩ := fldIntC (c := 5) Tryd.underlying3 cellsInt rfl (hg 5 _ rfl)
      obtain ⟨x6, rfl⟩ := fldIntC (c := 6) Tryd.underlying3 cellsInt rfl (hg 6 _ rfl)
      obtain ⟨x7, rfl⟩ := fldIntC (c := 7) Tryd.underlying3 cellsInt rfl (hg 7 _ rfl)
      obtain ⟨x8, rfl⟩ := fldIntC (c := 8) Tryd.underlying3 cellsInt rfl (hg 8 _ rfl)
      obtain ⟨x9, rfl⟩ := fldIntC (c := 9) Tryd.underlying3 cellsInt rfl (hg 9 _ rfl)
      obtain ⟨x10, rfl⟩ := fldIntC (c := 10) Tryd.underlying3 cellsInt rfl (hg 10 _ rfl)
      have h11 := fldSub (t := 27) (c := 11) (vs := [c11, c12, c13]) cellsWts rfl (hg 11 _ rfl)
      obtain ⟨zs, m, hm, hz, _, hzl, hzg⟩ := DataW.trod_struct Tryd.underlying27 h11
      match zs, hzl with
      | [z0, z1, z2], _ =>
        obtain ⟨x11, rfl⟩ := fldIntC (c := 0) Tryd.underlying3 cellsInt rfl (hzg 0 _ rfl)
        obtain ⟨x12, rfl⟩ := fldIntC (c := 1) Tryd.underlying3 cellsInt rfl (hzg 1 _ rfl)
        obtain ⟨x13, rfl⟩ := fldIntC (c := 2) Tryd.underlying3 cellsInt rfl (hzg 2 _ rfl)
        exact ⟨x0, x1, x2, x3, x4, x5, x6, x7, x8, x9, x10, x11, x12, x13, rfl⟩
end
end Go.Proofs.YtfelgolfebhmkaaDoor
