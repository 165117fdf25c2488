/- Arguments that are films and bytes of tracks, opened. Conditions as stated. -/
import Derived.Test.YtlonhkjplijlcaaMfd40
import Derived.Test.YtlonhkjplijlcaaMfd47
namespace Go.Proofs.Ytlonhkjplijlcaa
open Go.ChangeShapes Go.WideShapes Go.ChangeAt Go.RowKit Go.Joins Go.Deep
section
variable {H : Type} {enc : TypeId × Value → H} {W : World} {base : Nat}
theorem fldStrF {P : Program} {t : TypeId} {n : Nat} {v : Value} {y : DataW H × List MemPlace} (ht : P.underlying t = some .string) (h : DataW.trod enc P W 0 (fun _ => true) true n t [v] = some y) :
    ∃ l : List UInt8, v = .string ⟨l.toArray⟩ ∧ l.length ≤ maxLen := by
  obtain ⟨s, hv, _, hs⟩ := DataW.trod_string ht h
  injection hv with hv _
  refine ⟨s.data.toList, ?_, ?_⟩
  · rw [hv, Array.toArray_toList]
  · rw [Array.length_toList]; exact hs
set_option maxRecDepth 100000 in
theorem open_tracks {n : Nat} {A : Option Addr} {m c : Nat} {y : DataW H × List MemPlace} (h : DataW.trod enc Try.prog W 0 (fun _ => true) true n 22 [.slice A m c] = some y) :
    ∃ hs T, TksAt W A m c hs T ∧ nmF T := by
  obtain ⟨d, p⟩ := y
  obtain ⟨l, h1, h2, _⟩ := open_structsQ (α := TrkH × TrkT) (en := fun q => eTk q.1) (good := fun q => TkOk W q.1 q.2 ∧ q.2.name.length ≤ maxLen) (sz := 4) Try.underlying22 Try.underlying53 (by kernel_rfl) (by kernel_rfl) rfl (by omega) (fun cs k hl hd => by
    obtain ⟨v0, y0, g0, t0⟩ := hd 0 _ rfl
    obtain ⟨v1, y1, g1, t1⟩ := hd 1 _ rfl
    obtain ⟨v2, y2, g2, t2⟩ := hd 2 _ rfl
    obtain ⟨v3, y3, g3, t3⟩ := hd 3 _ rfl
    obtain ⟨nm, rfl, hnm⟩ := fldStrF Try.underlying9 t0
    obtain ⟨x1, rfl, _⟩ := fldInt Try.underlying3 t1
    obtain ⟨sA, sn, sc, rfl⟩ := fldSlice Try.underlying50 t2
    obtain ⟨eA, en, ec, rfl⟩ := fldSlice Try.underlying51 t3
    obtain ⟨d2, p2⟩ := y2
    obtain ⟨d3, p3⟩ := y3
    obtain ⟨sm, hsm, _, _⟩ := open_structsQ (sz := 5) Try.underlying50 Try.underlying55 (by kernel_rfl) (by kernel_rfl) rfl (by omega) (decSmp Try.underlying3 Try.underlying3 Try.underlying3 Try.underlying3 Try.underlying4) t2
    obtain ⟨ed, hed, _, _⟩ := open_structsQ (good := ok2) (en := e2) (sz := 2) Try.underlying51 Try.underlying95 (by kernel_rfl) (by kernel_rfl) rfl (by omega) (fun cs n hl hd => by
      obtain ⟨v0, y0, g0, t0⟩ := hd 0 _ rfl
      obtain ⟨v1, y1, g1, t1⟩ := hd 1 _ rfl
      obtain ⟨x0, rfl, b0⟩ := fldInt Try.underlying3 t0
      obtain ⟨x1, rfl, b1⟩ := fldInt Try.underlying3 t1
      match cs, hl with
      | [c0, c1], _ =>
        simp at g0 g1
        exact ⟨(x0, x1), ⟨b0, b1⟩, by rw [g0, g1]⟩) t3
    match cs, hl with
    | [c0, c1, c2, c3], _ =>
      simp at g0 g1 g2 g3
      exact ⟨(⟨nm, x1, sA, sn, sc, eA, en, ec⟩, ⟨nm, x1, sm, ed⟩), ⟨⟨rfl, rfl, hsm, hed⟩, hnm⟩, by rw [g0, g1, g2, g3]⟩) h
  have hl := h1.len
  refine ⟨l.map Prod.fst, l.map Prod.snd, ⟨At.map1 (en := fun q => eTk q.1) Prod.fst (fun _ => rfl) h1, by simpa using hl, fun i hi => ?_⟩, fun i hi => ?_⟩
  · have hil : i < l.length := by omega
    have := (h2 (l[i]'hil) (List.getElem_mem hil)).1
    simp only [List.getD_eq_getElem?_getD, List.getElem?_map, List.getElem?_eq_getElem hil, Option.map_some, Option.getD_some]
    exact this
  · rw [List.length_map] at hi
    have := (h2 (l[i]'hi) (List.getElem_mem hi)).2
    simp only [List.getD_eq_getElem?_getD, List.getElem?_map, List.getElem?_eq_getElem hi, Option.map_some, Option.getD_some]
    exact this
set_option maxRecDepth 100000 in
theorem open_film {v : Value} {d : DataW H} {p : List MemPlace} (hv : Value.okWide Try.prog W .any base 24 v) (h : DataW.Trod enc Try.prog W 0 (fun _ => true) true 24 v d p) :
    ∃ sc A n c hs T, v = .agg #[.int .i64 sc, .slice A n c] ∧ TksAt W A n c hs T ∧ nmF T ∧ (-9223372036854775808 ≤ sc ∧ sc ≤ 9223372036854775807) := by
  obtain ⟨v0, v1, y0, y1, n, rfl, _, _, h0, h1⟩ := open_agg2 Try.underlying24 (by kernel_rfl) (by kernel_rfl) hv h
  obtain ⟨x0, rfl, b0⟩ := fldInt Try.underlying3 h0
  obtain ⟨A, m, c, rfl⟩ := fldSlice Try.underlying22 h1
  obtain ⟨hs, T, h2, h3⟩ := open_tracks h1
  exact ⟨x0, A, m, c, hs, T, rfl, h2, h3, b0⟩
set_option maxRecDepth 100000 in
theorem open_datas {v : Value} {d : DataW H} {p : List MemPlace} (hv : Value.okWide Try.prog W .any base 25 v) (h : DataW.Trod enc Try.prog W 0 (fun _ => true) true 25 v d p) :
    ∃ A n c es D, v = .slice A n c ∧ DtsAt W A n c es D := by
  obtain ⟨A, n, c, rfl⟩ := okWide_slice Try.underlying25 hv
  obtain ⟨fuel, hf⟩ := h
  obtain ⟨l, h1, h2, _⟩ := open_onesQ (α := (Option Addr × Nat × Nat) × List UInt8) (en := fun x => eB1 x.1) (good := fun x => At W 1 e8 x.1.1 x.1.2.1 x.1.2.2 x.2) Try.underlying25 (by kernel_rfl)
    (fun v n y hy => by
      obtain ⟨A, n, c, rfl⟩ := fldSlice Try.underlying26 hy
      obtain ⟨d, p⟩ := y
      obtain ⟨l, g1, _⟩ := open_bytesQ Try.underlying26 Try.underlying5 (by kernel_rfl) hy
      exact ⟨((A, n, c), l), g1, rfl⟩) (by simpa [Value.cells] using hf)
  have hl := h1.len
  refine ⟨A, n, c, l.map Prod.fst, l.map Prod.snd, rfl, At.map1 (en := fun x => eB1 x.1) Prod.fst (fun _ => rfl) h1, by simpa using hl, fun i hi => ?_⟩
  have hil : i < l.length := by omega
  have := h2 (l[i]'hil) (List.getElem_mem hil)
  simp only [List.getD_eq_getElem?_getD, List.getElem?_map, List.getElem?_eq_getElem hil, Option.map_some, Option.getD_some]
  exact this
end
end Go.Proofs.Ytlonhkjplijlcaa
