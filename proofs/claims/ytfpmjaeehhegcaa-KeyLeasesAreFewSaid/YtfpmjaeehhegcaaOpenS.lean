/- Arguments that are seats, asks; slices.Equal of leases; MostOf. Conditions as stated. -/
import Derived.Test.YtfpmjaeehhegcaaOpens
import Derived.Test.YtfpmjaeehhegcaaWatK
import Derived.Lib.SmallJoins
namespace Go.Proofs.Ytfpmjaeehhegcaa
open Go.ChangeShapes Go.WideShapes Go.ChangeAt Go.RowKit Go.Joins

section
variable {H : Type} {enc : TypeId × Value → H} {P : Program} {W : World}
theorem fldStr {t : TypeId} {n : Nat} {v : Value} {y : DataW H × List MemPlace} (ht : P.underlying t = some .string) (h : DataW.trod enc P W 0 (fun _ => true) true n t [v] = some y) :
    ∃ s : ByteArray, v = .string s ∧ s.size ≤ maxLen := by
  obtain ⟨s, hv, _, hs⟩ := DataW.trod_string ht h
  injection hv with hv _
  exact ⟨s, hv, hs⟩
end
section
variable {H : Type} {enc : TypeId × Value → H} {W : World} {base : Nat}
set_option maxRecDepth 100000 in
theorem open_seats {v : Value} {d : DataW H} {p : List MemPlace} (hv : Value.okWide Try.prog W .any base 22 v) (h : DataW.Trod enc Try.prog W 0 (fun _ => true) true 22 v d p) :
    ∃ A n c l, v = .slice A n c ∧ At W 3 eS A n c l ∧ (∀ x ∈ l, okS x) ∧ Takes d c := by
  refine open_structsP (en := eS) (good := okS) (sz := 3) Try.underlying22 Try.underlying61 (by kernel_rfl) (by kernel_rfl) rfl (by omega) (fun cs n hl hd => ?_) hv h
  obtain ⟨v0, y0, g0, t0⟩ := hd 0 _ rfl
  obtain ⟨v1, y1, g1, t1⟩ := hd 1 _ rfl
  obtain ⟨v2, y2, g2, t2⟩ := hd 2 _ rfl
  obtain ⟨s0, rfl, b0⟩ := fldStr Try.underlying9 t0
  obtain ⟨x1, rfl, b1⟩ := fldInt Try.underlying3 t1
  obtain ⟨x2, rfl, b2⟩ := fldInt Try.underlying3 t2
  match cs, hl with
  | [c0, c1, c2], _ =>
    simp at g0 g1 g2
    exact ⟨(s0, x1, x2), b0, by rw [g0, g1, g2]⟩
set_option maxRecDepth 100000 in
theorem open_asks {v : Value} {d : DataW H} {p : List MemPlace} (hv : Value.okWide Try.prog W .any base 23 v) (h : DataW.Trod enc Try.prog W 0 (fun _ => true) true 23 v d p) :
    ∃ A n c l, v = .slice A n c ∧ At W 4 eA A n c l ∧ (∀ x ∈ l, okA x) ∧ Takes d c := by
  refine open_structsP (en := eA) (good := okA) (sz := 4) Try.underlying23 Try.underlying33 (by kernel_rfl) (by kernel_rfl) rfl (by omega) (fun cs n hl hd => ?_) hv h
  obtain ⟨v0, y0, g0, t0⟩ := hd 0 _ rfl
  obtain ⟨v1, y1, g1, t1⟩ := hd 1 _ rfl
  obtain ⟨v2, y2, g2, t2⟩ := hd 2 _ rfl
  obtain ⟨v3, y3, g3, t3⟩ := hd 3 _ rfl
  obtain ⟨x0, rfl, b0⟩ := fldInt Try.underlying3 t0
  obtain ⟨s1, rfl, b1⟩ := fldStr Try.underlying9 t1
  obtain ⟨s2, rfl, b2⟩ := fldStr Try.underlying9 t2
  obtain ⟨x3, rfl, b3⟩ := fldInt Try.underlying3 t3
  match cs, hl with
  | [c0, c1, c2, c3], _ =>
    simp at g0 g1 g2 g3
    exact ⟨(x0, s1, s2, x3), ⟨b1, b2⟩, by rw [g0, g1, g2, g3]⟩
end
set_option maxHeartbeats 1000000 in
/-- Two slices that read as one list. -/
theorem leasesEq_true {A1 A2 : Option Addr} {n1 c1 n2 c2 : Nat} {l : List (Int × Int)} {w : World} (h1 : At w 2 e2 A1 n1 c1 l) (h2 : At w 2 e2 A2 n2 c2 l) :
    Calls Try.prog 15 #[.slice A1 n1 c1, .slice A2 n2 c2] w fun e w' => e = .returned (.bool true) ∧ Ext w w' := by
  obtain rfl : n1 = n2 := h1.len.symm.trans h2.len
  have hb := h1.bound
  have H1 := hide h1; have H2 := hide h2
  clear h1 h2
  go_enter Try.func15, Try.ntmps15
  go_wp2_with fail
  go_loopw [13] (fun ri wr => ∃ k : Nat, k ≤ n1 ∧ ri = .int .i64 k ∧ Hid (Ext w wr)) (fun i _ => n1 - (intOf i).toNat)
  case atStart => exact ⟨0, by omega, rfl, hide (Ext.refl _)⟩
  case round =>
    obtain ⟨k, hk, rfl, HX⟩ := hrel
    by_cases hlt : k < n1
    · obtain ⟨b, off, rfl, _⟩ := H1.out.addr (by omega)
      obtain ⟨b2, off2, rfl, _⟩ := H2.out.addr (by omega)
      obtain ⟨a1, a2⟩ := (H1.out.ext HX.out).pair hlt
      obtain ⟨a3, a4⟩ := (H2.out.ext HX.out).pair hlt
      generalize (l.getD k (0, 0)).1 = y0 at *
      generalize (l.getD k (0, 0)).2 = y1 at *
      have i1 : (k : Int) < (n1 : Int) := by omega
      have i0 : (0 : Int) ≤ (k : Int) := by omega
      go_wp2_with fail
      go_quiet (fail)
      go_wp2
      go_roundw
      case rel => exact ⟨k + 1, by omega, by go_num, below_drewN HX.out _⟩
      case measure => simp [intOf]; omega
    · have hkn : k = n1 := by omega
      clear hkn
      go_wp2
      go_ret
      exact ⟨rfl, HX.out⟩
/-- How many leases a user can have. -/
def mostV (L : List SeatV) (u : ByteArray) : Int := (L.findIdx? (seatP u)).elim 0 (mostOf L)
set_option maxHeartbeats 1000000 in
theorem mostOf_any {A : Option Addr} {n c : Nat} {L : List SeatV} {w : World} (h : At w 3 eS A n c L) (u : ByteArray) :
    Calls Try.prog 10 #[.slice A n c, .string u] w fun e w' => e = .returned (.tuple #[.int .i64 (mostV L u), .bool (L.findIdx? (seatP u)).isSome]) ∧ Ext w w' := by
  have HS := hide (refSeatsOf_any h u)
  have H := hide h
  have hb := h.bound
  unfold mostV
  cases hk : L.findIdx? (seatP u) with
  | none =>
    rw [idx_none hk] at HS
    clear h hk
    go_enter Try.func10, Try.ntmps10
    go_wp2_with fail
    refine HS.out.mono ?_
    rintro e w1 ⟨rfl, e1⟩
    go_wp2
    go_ret2
    exact ⟨rfl, e1⟩
  | some k =>
    rw [idx_some hk] at HS
    have hkl := (List.findIdx?_eq_some_iff_getElem.1 hk).1
    have hln := h.len
    obtain ⟨b, off, rfl, _⟩ := h.addr (by omega)
    have HV : Hid ((L.getD k d0S).2.1 = mostOf L k) := hide (by unfold mostOf; simp [List.getD, hkl])
    have i1 : (0 : Int) ≤ (k : Int) := by omega
    have i2 : (k : Int) < (n : Int) := by omega
    have HC := hide (fun (W : World) (hW : Ext w W) => (h.ext hW).cellK (k := k) (by omega) d0S 1 _ rfl)
    rw [HV.out] at HC
    simp only [Option.elim, Option.isSome]
    generalize mostOf L k = y at *
    clear h hk hkl hln
    go_enter Try.func10, Try.ntmps10
    go_wp2_with fail
    refine HS.out.mono ?_
    rintro e w1 ⟨rfl, e1⟩
    have a1 := HC.out w1 e1
    have E1 := hide e1
    clear e1
    go_wp2
    go_ret2
    exact ⟨rfl, E1.out⟩
end Go.Proofs.Ytfpmjaeehhegcaa
