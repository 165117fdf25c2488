/- Arguments that are licences, plays. Conditions as stated. -/
import Derived.Test.YtfpmjaeehhegcaaOpens3
import Derived.Test.YtfpmjaeehhegcaaLicF
import Derived.Lib.SmallJoins
namespace Go.Proofs.Ytfpmjaeehhegcaa
open Go.ChangeShapes Go.WideShapes Go.ChangeAt Go.RowKit Go.Joins Go.Deep

theorem cellsIntL : Try.prog.cellsOf 3 = 1 := by kernel_rfl
theorem cellsStrL : Try.prog.cellsOf 9 = 1 := by kernel_rfl
theorem cellsSpanL : Try.prog.cellsOf 71 = 2 := by kernel_rfl
theorem cellsOutsL : Try.prog.cellsOf 72 = 1 := by kernel_rfl
theorem cellsOutL : Try.prog.cellsOf 98 = 2 := by kernel_rfl
theorem cellsLicL : Try.prog.cellsOf 74 = 8 := by kernel_rfl
section
variable {H : Type} {enc : TypeId × Value → H} {W : World} {base : Nat}
theorem fStr {n : Nat} {v : Value} {y : DataW H × List MemPlace} (h : DataW.trod enc Try.prog W 0 (fun _ => true) true n 9 [v] = some y) : ∃ s : ByteArray, v = .string s ∧ s.size ≤ maxLen := by
  obtain ⟨s, hv, _, hs⟩ := DataW.trod_string Try.underlying9 h
  injection hv with hv _
  exact ⟨s, hv, hs⟩
theorem fSub {c k : Nat} {t : TypeId} {n : Nat} {vs : List Value} {y : DataW H × List MemPlace} (hc : Try.prog.cellsOf t = k) {cs : List Value} (hd : (cs.drop c).take k = vs)
    (h : DataW.trod enc Try.prog W 0 (fun _ => true) true n t ((cs.drop c).take (Try.prog.cellsOf t)) = some y) : DataW.trod enc Try.prog W 0 (fun _ => true) true n t vs = some y := by
  rw [hc, hd] at h; exact h
set_option maxRecDepth 100000 in
theorem dec_out (cs : List Value) (n : Nat) (y : DataW H × List MemPlace) (hl : cs.length = 2) (h : DataW.trod enc Try.prog W 0 (fun _ => true) true n 98 cs = some y) : ∃ x : OutV, okO x ∧ eO x = cs := by
  obtain ⟨xs, m, _, _, _, hlen, hg⟩ := DataW.trod_struct Try.underlying98 h
  match cs, hl with
  | [c0, c1], _ =>
    match xs, hlen with
    | [y0, y1], _ =>
      obtain ⟨s, rfl, hs⟩ := fStr (fSub (c := 0) (vs := [c0]) cellsStrL rfl (hg 0 _ rfl))
      obtain ⟨x, rfl, _⟩ := fldInt Try.underlying3 (fSub (c := 1) (vs := [c1]) cellsIntL rfl (hg 1 _ rfl))
      exact ⟨(s, x), hs, rfl⟩
set_option maxRecDepth 100000 in
set_option maxHeartbeats 1000000 in
theorem dec_lic (cs : List Value) (n : Nat) (y : DataW H × List MemPlace) (hl : cs.length = 8) (h : DataW.trod enc Try.prog W 0 (fun _ => true) true n 74 cs = some y) :
    ∃ x : LicM, (okL x ∧ At W 2 eO x.2.1 x.2.2.1 x.2.2.2 x.1.outs) ∧ eL x = cs := by
  obtain ⟨xs, m, _, _, _, hlen, hg⟩ := DataW.trod_struct Try.underlying74 h
  match cs, hl with
  | [c0, c1, c2, c3, c4, c5, c6, c7], _ =>
    match xs, hlen with
    | [y0, y1, y2, y3, y4, y5, y6], _ =>
      obtain ⟨s0, rfl, hs0⟩ := fStr (fSub (c := 0) (vs := [c0]) cellsStrL rfl (hg 0 _ rfl))
      obtain ⟨s1, rfl, hs1⟩ := fStr (fSub (c := 1) (vs := [c1]) cellsStrL rfl (hg 1 _ rfl))
      have h2 := fSub (t := 71) (c := 2) (vs := [c2, c3]) cellsSpanL rfl (hg 2 _ rfl)
      obtain ⟨zs, q, _, _, _, hzl, hzg⟩ := DataW.trod_struct Try.underlying71 h2
      obtain ⟨x4, rfl, _⟩ := fldInt Try.underlying3 (fSub (c := 4) (vs := [c4]) cellsIntL rfl (hg 3 _ rfl))
      obtain ⟨x5, rfl, _⟩ := fldInt Try.underlying3 (fSub (c := 5) (vs := [c5]) cellsIntL rfl (hg 4 _ rfl))
      obtain ⟨x6, rfl, _⟩ := fldInt Try.underlying3 (fSub (c := 6) (vs := [c6]) cellsIntL rfl (hg 5 _ rfl))
      obtain ⟨A, k, c, O, rfl, hA, hO⟩ := fldElems (en := eO) (good := okO) (sz := 2) Try.underlying72 cellsOutL (by decide) (fun cs n y hl h => dec_out cs n y hl h) (fSub (c := 7) (vs := [c7]) cellsOutsL rfl (hg 6 _ rfl))
      match zs, hzl with
      | [z0, z1], _ =>
        obtain ⟨x2, rfl, _⟩ := fldInt Try.underlying3 (fSub (c := 0) (vs := [c2]) cellsIntL rfl (hzg 0 _ rfl))
        obtain ⟨x3, rfl, _⟩ := fldInt Try.underlying3 (fSub (c := 1) (vs := [c3]) cellsIntL rfl (hzg 1 _ rfl))
        exact ⟨(⟨s0, s1, x2, x3, x4, x5, x6, O⟩, A, k, c), ⟨⟨hs0, hs1, hO⟩, hA⟩, rfl⟩
set_option maxRecDepth 100000 in
theorem open_lics {v : Value} {d : DataW H} {p : List MemPlace} (hv : Value.okWide Try.prog W .any base 42 v) (h : DataW.Trod enc Try.prog W 0 (fun _ => true) true 42 v d p) :
    ∃ A n c l, v = .slice A n c ∧ At W 8 eL A n c l ∧ Outs W l ∧ (∀ x ∈ l, okL x) := by
  obtain ⟨A, n, c, l, rfl, h1, h2, _⟩ := open_elemsP (en := eL) (good := fun x => okL x ∧ At W 2 eO x.2.1 x.2.2.1 x.2.2.2 x.1.outs) (sz := 8) Try.underlying42 cellsLicL (by decide) (fun cs n y hl h => dec_lic cs n y hl h) hv h
  exact ⟨A, n, c, l, rfl, h1, fun x hx => (h2 x hx).2, fun x hx => (h2 x hx).1⟩
set_option maxRecDepth 100000 in
theorem open_play {v : Value} {d : DataW H} {p : List MemPlace} (hv : Value.okWide Try.prog W .any base 44 v) (h : DataW.Trod enc Try.prog W 0 (fun _ => true) true 44 v d p) :
    ∃ T F s ht, v = .agg #[.int .i64 T, .int .i64 F, .string s, .int .i64 ht] ∧ s.size ≤ maxLen := by
  obtain ⟨v0, v1, v2, v3, y0, y1, y2, y3, n, rfl, _, _, h0, h1, h2, h3⟩ := open_agg4 Try.underlying44 (by kernel_rfl) (by kernel_rfl) hv h
  obtain ⟨T, rfl, _⟩ := fldInt Try.underlying3 h0
  obtain ⟨F, rfl, _⟩ := fldInt Try.underlying3 h1
  obtain ⟨s, rfl, hs⟩ := fStr h2
  obtain ⟨ht, rfl, _⟩ := fldInt Try.underlying3 h3
  exact ⟨T, F, s, ht, rfl, hs⟩
end
end Go.Proofs.Ytfpmjaeehhegcaa
