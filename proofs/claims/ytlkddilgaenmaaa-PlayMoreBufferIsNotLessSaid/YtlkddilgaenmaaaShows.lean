/- Films and players in an argument, opened. Conditions as stated. -/
import Derived.Test.YtlkddilgaenmaaaOpens2
import Derived.Test.YtlkddilgaenmaaaFilmP
import Derived.Test.YtlkddilgaenmaaaFilmB
namespace Go.Proofs.Ytlkddilgaenmaaa
open Go.ChangeShapes Go.WideShapes Go.ChangeAt Go.RowKit Go.Joins Go.Deep
theorem cellsInt : Try.prog.cellsOf 3 = 1 := by kernel_rfl
theorem cellsInts : Try.prog.cellsOf 22 = 1 := by kernel_rfl
theorem cellsWts : Try.prog.cellsOf 27 = 3 := by kernel_rfl
section
variable {H : Type} {enc : TypeId × Value → H} {W : World} {base : Nat}
set_option maxRecDepth 100000 in
theorem open_show {v : Value} {d : DataW H} {p : List MemPlace} (hv : Value.okWide Try.prog W .any base 25 v) (h : DataW.Trod enc Try.prog W 0 (fun _ => true) true 25 v d p) :
    ∃ lA ln lc sA sn sc qA qn qc L S Q, v = shV lA ln lc sA sn sc qA qn qc ∧ Shw W lA ln lc sA sn sc qA qn qc L S Q := by
  obtain ⟨v0, v1, v2, y0, y1, y2, n, rfl, _, _, h0, h1, h2⟩ := open_agg3 Try.underlying25 (by kernel_rfl) (by kernel_rfl) hv h
  obtain ⟨lA, ln, lc, L, rfl, hL, _, _⟩ := fldIntsP Try.underlying22 Try.underlying3 cellsInt h0
  obtain ⟨sA, sn, sc, S, rfl, hS, _⟩ := fldRowsP Try.underlying23 cellsInts Try.underlying22 Try.underlying3 cellsInt h1
  obtain ⟨qA, qn, qc, Q, rfl, hQ, _, _⟩ := fldIntsP Try.underlying22 Try.underlying3 cellsInt h2
  exact ⟨lA, ln, lc, sA, sn, sc, qA, qn, qc, L, S, Q, rfl, hL, hS, hQ⟩
theorem fldIntC {c : Nat} {t : TypeId} {n : Nat} {v : Value} {rest : List Value} {y : DataW H × List MemPlace} (ht : Try.prog.underlying t = some (.int .i64)) (hc : Try.prog.cellsOf t = 1) {cs : List Value} (hd : cs.drop c = v :: rest)
    (h : DataW.trod enc Try.prog W 0 (fun _ => true) true n t ((cs.drop c).take (Try.prog.cellsOf t)) = some y) : ∃ x, v = .int .i64 x := by
  rw [hc, hd] at h
  obtain ⟨x, rfl, _⟩ := fldInt ht h
  exact ⟨x, rfl⟩
theorem fldSub {c k : Nat} {t : TypeId} {n : Nat} {vs : List Value} {y : DataW H × List MemPlace} (hc : Try.prog.cellsOf t = k) {cs : List Value} (hd : (cs.drop c).take k = vs)
    (h : DataW.trod enc Try.prog W 0 (fun _ => true) true n t ((cs.drop c).take (Try.prog.cellsOf t)) = some y) : DataW.trod enc Try.prog W 0 (fun _ => true) true n t vs = some y := by
  rw [hc, hd] at h; exact h
set_option maxRecDepth 100000 in
set_option maxHeartbeats 1000000 in
theorem open_weights {v : Value} {d : DataW H} {p : List MemPlace} (hv : Value.okWide Try.prog W .any base 27 v) (h : DataW.Trod enc Try.prog W 0 (fun _ => true) true 27 v d p) :
    ∃ x y z, v = .agg #[.int .i64 x, .int .i64 y, .int .i64 z] := by
  obtain ⟨v0, v1, v2, y0, y1, y2, n, rfl, _, _, h0, h1, h2⟩ := open_agg3 Try.underlying27 (by kernel_rfl) (by kernel_rfl) hv h
  obtain ⟨x, rfl, _⟩ := fldInt Try.underlying3 h0
  obtain ⟨y, rfl, _⟩ := fldInt Try.underlying3 h1
  obtain ⟨z, rfl, _⟩ := fldInt Try.underlying3 h2
  exact ⟨x, y, z, rfl⟩
set_option maxRecDepth 100000 in
set_option maxHeartbeats 1000000 in
theorem open_player {v : Value} {d : DataW H} {p : List MemPlace} (hv : Value.okWide Try.prog W .any base 29 v) (h : DataW.Trod enc Try.prog W 0 (fun _ => true) true 29 v d p) :
    ∃ a0 a1 a2 a3 a4 a5 a6 a7 a8 a9 a10 a11 a12 a13, v = plV a0 a1 a2 a3 a4 a5 a6 a7 a8 a9 a10 a11 a12 a13 := by
  obtain ⟨cs, rfl, hsz⟩ := okWide_struct Try.underlying29 hv
  obtain ⟨l⟩ := cs
  have hC : Try.prog.cellsOf 29 = 14 := by kernel_rfl
  match l, hsz.trans hC with
  | [c0, c1, c2, c3, c4, c5, c6, c7, c8, c9, c10, c11, c12, c13], _ =>
    obtain ⟨fuel, hf⟩ := h
    obtain ⟨xs, n, _, hx, _, hlen, hg⟩ := DataW.trod_struct Try.underlying29 hf
    match xs, hlen with
    | [y0, y1, y2, y3, y4, y5, y6, y7, y8, y9, y10, y11], _ =>
      obtain ⟨x0, rfl⟩ := fldIntC (c := 0) Try.underlying3 cellsInt rfl (hg 0 _ rfl)
      obtain ⟨x1, rfl⟩ := fldIntC (c := 1) Try.underlying3 cellsInt rfl (hg 1 _ rfl)
      obtain ⟨x2, rfl⟩ := fldIntC (c := 2) Try.underlying3 cellsInt rfl (hg 2 _ rfl)
      obtain ⟨x3, rfl⟩ := fldIntC (c := 3) Try.underlying3 cellsInt rfl (hg 3 _ rfl)
      obtain ⟨x4, rfl⟩ := fldIntC (c := 4) Try.underlying3 cellsInt rfl (hg 4 _ rfl)
      obtain ⟨x5, rfl⟩ := fldIntC (c := 5) Try.underlying3 cellsInt rfl (hg 5 _ rfl)
      obtain ⟨x6, rfl⟩ := fldIntC (c := 6) Try.underlying3 cellsInt rfl (hg 6 _ rfl)
      obtain ⟨x7, rfl⟩ := fldIntC (c := 7) Try.underlying3 cellsInt rfl (hg 7 _ rfl)
      obtain ⟨x8, rfl⟩ := fldIntC (c := 8) Try.underlying3 cellsInt rfl (hg 8 _ rfl)
      obtain ⟨x9, rfl⟩ := fldIntC (c := 9) Try.underlying3 cellsInt rfl (hg 9 _ rfl)
      obtain ⟨x10, rfl⟩ := fldIntC (c := 10) Try.underlying3 cellsInt rfl (hg 10 _ rfl)
      have h11 := fldSub (t := 27) (c := 11) (vs := [c11, c12, c13]) cellsWts rfl (hg 11 _ rfl)
      obtain ⟨zs, m, hm, hz, _, hzl, hzg⟩ := DataW.trod_struct Try.underlying27 h11
      match zs, hzl with
      | [z0, z1, z2], _ =>
        obtain ⟨x11, rfl⟩ := fldIntC (c := 0) Try.underlying3 cellsInt rfl (hzg 0 _ rfl)
        obtain ⟨x12, rfl⟩ := fldIntC (c := 1) Try.underlying3 cellsInt rfl (hzg 1 _ rfl)
        obtain ⟨x13, rfl⟩ := fldIntC (c := 2) Try.underlying3 cellsInt rfl (hzg 2 _ rfl)
        exact ⟨x0, x1, x2, x3, x4, x5, x6, x7, x8, x9, x10, x11, x12, x13, rfl⟩
end
end Go.Proofs.Ytlkddilgaenmaaa
