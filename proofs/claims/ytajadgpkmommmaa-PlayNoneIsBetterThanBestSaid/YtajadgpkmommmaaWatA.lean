/- Walks: askTime and bufferAt of the program's watcher. Conditions as stated. -/
import Derived.Test.YtajadgpkmommmaaFolP
import Derived.Test.YtajadgpkmommmaaOut
import Derived.Test.YtajadgpkmommmaaTw
namespace Go.Proofs.Ytajadgpkmommmaa
open Go.RowKit

section
variable {lA : Option Addr} {ln lc : Nat} {sA : Option Addr} {sn sc : Nat} {qA : Option Addr} {qn qc : Nat} {d0 s0 r0 f0 i0 k0 l0 t0 lo0 hi0 a0 x0 y0 z0 : Int} {ch asd arr st ld : Value} {beg en at_ buf stl : Int} {pl bg : Bool} {g : Nat} {L : List Int} {w : World}

set_option maxRecDepth 100000 in
set_option maxHeartbeats 2000000 in
theorem askTime_any (h : Blk w g 80 #[.slice lA ln lc, .slice sA sn sc, .slice qA qn qc, .int .i64 d0, .int .i64 s0, .int .i64 r0, .int .i64 f0, .int .i64 i0, .int .i64 k0, .int .i64 l0, .int .i64 t0, .int .i64 lo0, .int .i64 hi0, .int .i64 a0, .int .i64 x0, .int .i64 y0, .int .i64 z0, ch, asd, arr, .int .i64 beg, st, .int .i64 en, ld, .int .i64 at_, .int .i64 buf, .bool pl, .bool bg, .int .i64 stl]) (hL : At w 1 e64 lA ln lc L) {n : Nat} (hn : n < ln) (ha : 0 ≤ at_ ∧ at_ ≤ 1000000000000000000) (hb : 0 ≤ buf ∧ buf ≤ 1000000000000) (hx : 0 ≤ L.getD n 0 ∧ L.getD n 0 ≤ 1000000000) (hf : 0 ≤ f0 ∧ f0 ≤ 1000000000) {sts : List (Int × Int)} :
    Calls Try.prog 39 #[.pointer (some ⟨g, 0, none⟩), .int .i64 (n : Int)] w fun e w' => e = .returned (.int .i64 (askT f0 (L.getD n 0) ⟨at_, buf, pl, bg, stl, beg, sts⟩)) ∧ Ext w w' := by
  have c0 := h.cell 0
  have c6 := h.cell 6
  have c24 := h.cell 24
  have c25 := h.cell 25
  have c26 := h.cell 26
  have hbn := hL.bound
  obtain ⟨b, off, rfl, _⟩ := hL.addr (by omega)
  have e0 := hL.num hn
  clear h hL
  obtain ⟨ha1, ha2⟩ := ha
  obtain ⟨hb1, hb2⟩ := hb
  obtain ⟨hx1, hx2⟩ := hx
  obtain ⟨hf1, hf2⟩ := hf
  generalize L.getD n 0 = x at *
  have i0 : (0 : Int) ≤ (n : Int) := by omega
  have i1 : (n : Int) < (ln : Int) := by omega
  cases pl with
  | false =>
    have hv : askT f0 x ⟨at_, buf, false, bg, stl, beg, sts⟩ = at_ := by unfold askT; simp
    rw [hv]
    clear hv
    go_enter Try.func39, Try.ntmps39
    go_wp2
    go_ret
    exact ⟨rfl, Ext.refl _⟩
  | true =>
    have hv : askT f0 x ⟨at_, buf, true, bg, stl, beg, sts⟩ = at_ + min buf (max 0 (buf + x - f0)) := by unfold askT; simp
    have HV := hide hv
    clear hv
    have w1 : IntKind.i64.wrap (buf + x) = buf + x := by rw [IntKind.wrap_i64]; omega
    have w2 : IntKind.i64.wrap (buf + x - f0) = buf + x - f0 := by rw [IntKind.wrap_i64]; omega
    have w3 : IntKind.i64.wrap (at_ + min buf (max 0 (buf + x - f0))) = at_ + min buf (max 0 (buf + x - f0)) := by rw [IntKind.wrap_i64]; omega
    go_enter Try.func39, Try.ntmps39
    go_wp2_with fail
    go_quiet (fail)
    go_wp2_with fail
    go_ret
    exact ⟨ret_int HV.out.symm, Ext.drewN _ _⟩
set_option maxRecDepth 100000 in
set_option maxHeartbeats 2000000 in
theorem bufferAt_any (h : Blk w g 80 #[.slice lA ln lc, .slice sA sn sc, .slice qA qn qc, .int .i64 d0, .int .i64 s0, .int .i64 r0, .int .i64 f0, .int .i64 i0, .int .i64 k0, .int .i64 l0, .int .i64 t0, .int .i64 lo0, .int .i64 hi0, .int .i64 a0, .int .i64 x0, .int .i64 y0, .int .i64 z0, ch, asd, arr, .int .i64 beg, st, .int .i64 en, ld, .int .i64 at_, .int .i64 buf, .bool pl, .bool bg, .int .i64 stl]) {t : Int} (ha : 0 ≤ at_ ∧ at_ ≤ 1000000000000000000) (hb : 0 ≤ buf ∧ buf ≤ 1000000000000) (ht : 0 ≤ t ∧ t ≤ 1000000000000000000) {sts : List (Int × Int)} :
    Calls Try.prog 40 #[.pointer (some ⟨g, 0, none⟩), .int .i64 t] w fun e w' => e = .returned (.int .i64 (bufT ⟨at_, buf, pl, bg, stl, beg, sts⟩ t)) ∧ Ext w w' := by
  have c24 := h.cell 24
  have c25 := h.cell 25
  have c26 := h.cell 26
  clear h
  obtain ⟨ha1, ha2⟩ := ha
  obtain ⟨hb1, hb2⟩ := hb
  obtain ⟨ht1, ht2⟩ := ht
  cases pl with
  | false =>
    have hv : bufT ⟨at_, buf, false, bg, stl, beg, sts⟩ t = buf := by unfold bufT; simp
    rw [hv]
    clear hv
    go_enter Try.func40, Try.ntmps40
    go_wp2
    go_ret
    exact ⟨rfl, Ext.refl _⟩
  | true =>
    have hv : bufT ⟨at_, buf, true, bg, stl, beg, sts⟩ t = max 0 (buf - (t - at_)) := by unfold bufT; simp
    have HV := hide hv
    clear hv
    have w1 : IntKind.i64.wrap (t - at_) = t - at_ := by rw [IntKind.wrap_i64]; omega
    have w2 : IntKind.i64.wrap (buf - (t - at_)) = buf - (t - at_) := by rw [IntKind.wrap_i64]; omega
    go_enter Try.func40, Try.ntmps40
    go_wp2_with fail
    go_quiet (fail)
    go_wp2_with fail
    go_ret
    exact ⟨ret_int HV.out.symm, Ext.drewN _ _⟩
end
end Go.Proofs.Ytajadgpkmommmaa
