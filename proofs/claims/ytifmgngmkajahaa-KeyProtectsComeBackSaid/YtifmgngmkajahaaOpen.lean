/- Arguments of struct types, opened. Conditions as stated. -/
import Derived.Test.YtifmgngmkajahaaLaw
import Derived.Test.YtifmgngmkajahaaOpens
import Derived.Test.YtifmgngmkajahaaRotA
import Derived.Lib.SmallJoins
namespace Go.Proofs.Ytifmgngmkajahaa
open Go.ChangeShapes Go.WideShapes Go.ChangeAt Go.RowKit Go.Joins

section
variable {H : Type} {enc : TypeId × Value → H} {P : Program} {w : World} {base : Nat} {spare : Nat → Bool} {held : Bool}
theorem trodAll_five {t t' t2 t3 t4 : TypeId} {args : Array Value} {ds : List (DataW H)} {ps : List MemPlace} (h : DataW.TrodAll enc P w base spare held [t, t', t2, t3, t4] args.toList ds ps) :
    ∃ v v' v2 v3 v4 d d' d2 d3 d4 p p' p2 p3 p4, args = #[v, v', v2, v3, v4] ∧ ds = [d, d', d2, d3, d4] ∧ ps = p ++ p' ++ p2 ++ p3 ++ p4 ∧ DataW.Trod enc P w base spare held t v d p ∧ DataW.Trod enc P w base spare held t' v' d' p' ∧ DataW.Trod enc P w base spare held t2 v2 d2 p2 ∧ DataW.Trod enc P w base spare held t3 v3 d3 p3 ∧ DataW.Trod enc P w base spare held t4 v4 d4 p4 := by
  obtain ⟨v, vs, d, ds', p, q, hargs, rfl, rfl, hd, hrest⟩ := trodAll_cons h
  obtain ⟨v', vs', d', ds1, p', q', rfl, rfl, rfl, hd', hrest'⟩ := trodAll_cons hrest
  obtain ⟨v2, vs2, d2, ds2, p2, q2, rfl, rfl, rfl, hd2, hrest2⟩ := trodAll_cons hrest'
  obtain ⟨v3, vs3, d3, ds3, p3, q3, rfl, rfl, rfl, hd3, hrest3⟩ := trodAll_cons hrest2
  obtain ⟨v4, vs4, d4, ds4, p4, q4, rfl, rfl, rfl, hd4, hrest4⟩ := trodAll_cons hrest3
  obtain ⟨rfl, rfl, rfl⟩ := trodAll_nil hrest4
  exact ⟨v, v', v2, v3, v4, d, d', d2, d3, d4, p, p', p2, p3, p4, by cases args; simp_all, rfl, by simp, hd, hd', hd2, hd3, hd4⟩
end
section
variable {H : Type} {enc : TypeId × Value → H} {P : Program} {W : World}
theorem fld_int {t : TypeId} {n : Nat} {v : Value} {y : DataW H × List MemPlace} (ht : P.underlying t = some (.int .i64)) (h : DataW.trod enc P W 0 (fun _ => true) true n t [v] = some y) :
    ∃ x, v = .int .i64 x ∧ (-9223372036854775808 ≤ x ∧ x ≤ 9223372036854775807) := by
  obtain ⟨x, hv, _, hw⟩ := DataW.trod_int ht h
  injection hv with hv _
  exact ⟨x, hv, wf_i64 hw⟩
theorem fld_bytes {t e : TypeId} {n : Nat} {v : Value} {y : DataW H × List MemPlace} (hts : P.underlying t = some (.slice e)) (hte : P.underlying e = some (.int .u8)) (htc : P.cellsOf e = 1)
    (h : DataW.trod enc P W 0 (fun _ => true) true n t [v] = some y) : ∃ A n c l, v = .slice A n c ∧ At W 1 e8 A n c l ∧ Takes y.1 c := by
  have hv : ∃ A n c, v = .slice A n c := by
    rcases open_ints hts hte htc h with ⟨hcs, _⟩ | ⟨a, len, cap, zs, hcs, _⟩
    · injection hcs with hcs _; exact ⟨_, _, _, hcs⟩
    · injection hcs with hcs _; exact ⟨_, _, _, hcs⟩
  obtain ⟨A, k, c, rfl⟩ := hv
  obtain ⟨d, p⟩ := y
  obtain ⟨l, h1, h2⟩ := open_bytesQ hts hte htc h
  exact ⟨A, k, c, l, rfl, h1, h2⟩
end
section
variable {H : Type} {enc : TypeId × Value → H} {W : World} {base : Nat}
set_option maxRecDepth 100000 in
theorem open_rot {v : Value} {d : DataW H} {p : List MemPlace} (hv : Value.okWide Try.prog W .any base 31 v) (h : DataW.Trod enc Try.prog W 0 (fun _ => true) true 31 v d p) :
    ∃ B E L A n c l, v = rotV B E L A n c ∧ (-9223372036854775808 ≤ B ∧ B ≤ 9223372036854775807) ∧ (-9223372036854775808 ≤ E ∧ E ≤ 9223372036854775807) ∧ (-9223372036854775808 ≤ L ∧ L ≤ 9223372036854775807) ∧ At W 1 e8 A n c l := by
  obtain ⟨v0, v1, v2, v3, y0, y1, y2, y3, n, rfl, _, _, h0, h1, h2, h3⟩ := open_agg4 Try.underlying31 (by kernel_rfl) (by kernel_rfl) hv h
  obtain ⟨B, rfl, hB⟩ := fld_int Try.underlying3 h0
  obtain ⟨E, rfl, hE⟩ := fld_int Try.underlying3 h1
  obtain ⟨L, rfl, hL⟩ := fld_int Try.underlying3 h2
  obtain ⟨A, k, c, l, rfl, hA, _⟩ := fld_bytes Try.underlying22 Try.underlying5 Try.cells5 h3
  exact ⟨B, E, L, A, k, c, l, rfl, hB, hE, hL, hA⟩
set_option maxRecDepth 100000 in
theorem open_span {v : Value} {d : DataW H} {p : List MemPlace} (hv : Value.okWide Try.prog W .any base 33 v) (h : DataW.Trod enc Try.prog W 0 (fun _ => true) true 33 v d p) :
    ∃ F T, v = .agg #[.int .i64 F, .int .i64 T] ∧ (-9223372036854775808 ≤ F ∧ F ≤ 9223372036854775807) ∧ (-9223372036854775808 ≤ T ∧ T ≤ 9223372036854775807) := by
  obtain ⟨v0, v1, y0, y1, n, rfl, _, _, h0, h1⟩ := open_agg2 Try.underlying33 (by kernel_rfl) (by kernel_rfl) hv h
  obtain ⟨F, rfl, hF⟩ := fld_int Try.underlying3 h0
  obtain ⟨T, rfl, hT⟩ := fld_int Try.underlying3 h1
  exact ⟨F, T, rfl, hF, hT⟩
set_option maxRecDepth 100000 in
theorem open_subs {v : Value} {d : DataW H} {p : List MemPlace} (hv : Value.okWide Try.prog W .any base 44 v) (h : DataW.Trod enc Try.prog W 0 (fun _ => true) true 44 v d p) :
    ∃ A n c l, v = .slice A n c ∧ At W 2 e2 A n c l ∧ (∀ x ∈ l, ok2 x) ∧ Takes d c :=
  open_pairsP Try.underlying44 Try.underlying49 (by kernel_rfl) (by kernel_rfl) Try.underlying3 Try.underlying3 hv h
set_option maxRecDepth 100000 in
theorem open_nums {v : Value} {d : DataW H} {p : List MemPlace} (hv : Value.okWide Try.prog W .any base 34 v) (h : DataW.Trod enc Try.prog W 0 (fun _ => true) true 34 v d p) :
    ∃ A n c, ∃ l : List Int, v = .slice A n c ∧ At W 1 e64 A n c l ∧ (∀ x ∈ l, -9223372036854775808 ≤ x ∧ x ≤ 9223372036854775807) ∧ Takes d c :=
  open_intsP Try.underlying34 Try.underlying3 (by kernel_rfl) hv h
set_option maxRecDepth 100000 in
theorem open_scheme {v : Value} {d : DataW H} {p : List MemPlace} (hv : Value.okWide Try.prog W .any base 57 v) (h : DataW.Trod enc Try.prog W 0 (fun _ => true) true 57 v d p) :
    ∃ m c s, v = .agg #[.int .i64 m, .int .i64 c, .int .i64 s] ∧ (-9223372036854775808 ≤ m ∧ m ≤ 9223372036854775807) ∧ (-9223372036854775808 ≤ c ∧ c ≤ 9223372036854775807) ∧ (-9223372036854775808 ≤ s ∧ s ≤ 9223372036854775807) := by
  obtain ⟨v0, v1, v2, y0, y1, y2, n, rfl, _, _, h0, h1, h2⟩ := open_agg3 Try.underlying57 (by kernel_rfl) (by kernel_rfl) hv h
  obtain ⟨B, rfl, hB⟩ := fld_int Try.underlying3 h0
  obtain ⟨E, rfl, hE⟩ := fld_int Try.underlying3 h1
  obtain ⟨L, rfl, hL⟩ := fld_int Try.underlying3 h2
  exact ⟨B, E, L, rfl, hB, hE, hL⟩
end
end Go.Proofs.Ytifmgngmkajahaa
