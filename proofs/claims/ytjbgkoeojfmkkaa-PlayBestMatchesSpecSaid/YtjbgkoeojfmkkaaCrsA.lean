/- Walks: pass, rest and asks of the document's course. Conditions as stated. -/
import Derived.Test.YtjbgkoeojfmkkaaFolP
import Derived.Test.YtjbgkoeojfmkkaaOut
import Derived.Test.YtjbgkoeojfmkkaaTw
import Derived.Test.YtjbgkoeojfmkkaaStep
import Derived.Deep.DeepCutAuto
namespace Go.Proofs.Ytjbgkoeojfmkkaa
open Go.RowKit

section
variable {ch asd arr st ld : Value} {beg en at_ buf stl : Int} {pl bg : Bool} {g : Nat} {w : World}
/-- What pass leaves behind. -/
def PasGives (w : World) (g : Nat) (ch asd arr st : Value) (en : Int) (x : WaT) (e : Ending) (w' : World) : Prop :=
  e = .returned (.tuple #[]) ∧ Blk w' g 102 #[ch, asd, arr, .int .i64 x.beg, st, .int .i64 en, .bool x.begun, .bool x.plays, .int .i64 x.at_, .int .i64 x.buf, .int .i64 x.stalled] ∧ Tw w w' g none

set_option linter.unusedSimpArgs false in
set_option linter.unusedVariables false in
set_option maxRecDepth 100000 in
set_option maxHeartbeats 4000000 in
theorem pass_p1 (h : Blk w g 102 #[ch, asd, arr, .int .i64 beg, st, .int .i64 en, .bool bg, .bool false, .int .i64 at_, .int .i64 buf, .int .i64 stl]) (ha : 0 ≤ at_ ∧ at_ ≤ 1000000000000000000) (hb : 0 ≤ buf ∧ buf ≤ 1000000000000) {t : Int} (ht : at_ ≤ t ∧ t ≤ 1000000000000000000) {sts : List (Int × Int)} :
    Calls Try.prog 85 #[.pointer (some ⟨g, 0, none⟩), .int .i64 t] w (PasGives w g ch asd arr st en (passR t ⟨at_, buf, false, bg, stl, beg, sts⟩)) := by
  have hv : passR t ⟨at_, buf, false, bg, stl, beg, sts⟩ = ⟨t, buf, false, bg, stl, beg, sts⟩ := by
    unfold passR
    grind
  rw [hv]
  clear hv
  obtain ⟨ha1, ha2⟩ := ha
  obtain ⟨hb1, hb2⟩ := hb
  obtain ⟨ht1, ht2⟩ := ht
  have T0 := hide (Tw.refl w g none)
  have B0 := hide h
  have c6 := h.cell 6
  have f6 := h.frozen 6
  have c7 := h.cell 7
  have f7 := h.frozen 7
  have c8 := h.cell 8
  have f8 := h.frozen 8
  have c9 := h.cell 9
  have f9 := h.frozen 9
  have c10 := h.cell 10
  have f10 := h.frozen 10
  clear h
  go_enter Try.func85, Try.ntmps85
  go_wp2_with fail
  go_quiet (fail)
  go_wp2_with fail
  refine gen_bod fun W9 h9 => ?_
  have T9 := hide (show Tw w W9 g none from by rw [h9]; (repeat' (first | (with_reducible exact T0.out) | (with_reducible refine Tw.drew ?_) | (with_reducible refine Tw.drewN ?_ _) | (with_reducible refine Tw.trans ?_ (Tw.set_ _ _ _ _ _)))))
  have B9 := hide (show Blk W9 g 102 #[ch, asd, arr, .int .i64 beg, st, .int .i64 en, .bool bg, .bool false, .int .i64 t, .int .i64 buf, .int .i64 stl] from by rw [h9]; exact (B0.out.set_ 8 _))
  clear h9
  go_end0
  exact ⟨rfl, B9.out, T9.out⟩
set_option linter.unusedSimpArgs false in
set_option linter.unusedVariables false in
set_option maxRecDepth 100000 in
set_option maxHeartbeats 4000000 in
theorem pass_p2 (h : Blk w g 102 #[ch, asd, arr, .int .i64 beg, st, .int .i64 en, .bool bg, .bool true, .int .i64 at_, .int .i64 buf, .int .i64 stl]) (ha : 0 ≤ at_ ∧ at_ ≤ 1000000000000000000) (hb : 0 ≤ buf ∧ buf ≤ 1000000000000) {t : Int} (ht : at_ ≤ t ∧ t ≤ 1000000000000000000) {sts : List (Int × Int)} (hc : buf = t - at_) :
    Calls Try.prog 85 #[.pointer (some ⟨g, 0, none⟩), .int .i64 t] w (PasGives w g ch asd arr st en (passR t ⟨at_, buf, true, bg, stl, beg, sts⟩)) := by
  have hv : passR t ⟨at_, buf, true, bg, stl, beg, sts⟩ = ⟨t, 0, true, bg, stl, beg, sts⟩ := by
    unfold passR
    grind
  rw [hv]
  clear hv
  obtain ⟨ha1, ha2⟩ := ha
  obtain ⟨hb1, hb2⟩ := hb
  obtain ⟨ht1, ht2⟩ := ht
  have v1 : IntKind.i64.wrap (t - at_) = t - at_ := by rw [IntKind.wrap_i64]; omega
  have v2 : decide (buf ≤ t - at_) = true := by simp; omega
  have v3 : decide (buf < t - at_) = false := by simp; omega
  clear hc
  have T0 := hide (Tw.refl w g none)
  have B0 := hide h
  have c6 := h.cell 6
  have f6 := h.frozen 6
  have c7 := h.cell 7
  have f7 := h.frozen 7
  have c8 := h.cell 8
  have f8 := h.frozen 8
  have c9 := h.cell 9
  have f9 := h.frozen 9
  have c10 := h.cell 10
  have f10 := h.frozen 10
  clear h
  go_enter Try.func85, Try.ntmps85
  go_wp2_with fail
  go_quiet (fail)
  go_wp2_with fail
  refine gen_wpC fun W1 h1 => ?_
  have T1 := hide (show Tw w W1 g none from by rw [h1]; (repeat' (first | (with_reducible exact T0.out) | (with_reducible refine Tw.drew ?_) | (with_reducible refine Tw.drewN ?_ _) | (with_reducible refine Tw.trans ?_ (Tw.set_ _ _ _ _ _)))))
  have B1 := hide (show Blk W1 g 102 #[ch, asd, arr, .int .i64 beg, st, .int .i64 en, .bool bg, .bool true, .int .i64 at_, .int .i64 buf, .int .i64 stl] from by rw [h1]; exact B0.out)
  clear h1 c6 f6 c7 f7 c8 f8 c9 f9 c10 f10
  have c6 := B1.out.cell 6
  have f6 := B1.out.frozen 6
  have c7 := B1.out.cell 7
  have f7 := B1.out.frozen 7
  have c8 := B1.out.cell 8
  have f8 := B1.out.frozen 8
  have c9 := B1.out.cell 9
  have f9 := B1.out.frozen 9
  have c10 := B1.out.cell 10
  have f10 := B1.out.frozen 10
  go_quiet (fail)
  go_wp2_with fail
  refine gen_bod fun W9 h9 => ?_
  have T9 := hide (show Tw w W9 g none from by rw [h9]; (repeat' (first | (with_reducible exact T1.out) | (with_reducible refine Tw.drew ?_) | (with_reducible refine Tw.drewN ?_ _) | (with_reducible refine Tw.trans ?_ (Tw.set_ _ _ _ _ _)))))
  have B9 := hide (show Blk W9 g 102 #[ch, asd, arr, .int .i64 beg, st, .int .i64 en, .bool bg, .bool true, .int .i64 t, .int .i64 0, .int .i64 stl] from by rw [h9]; exact ((B1.out.set_ 9 _).set_ 8 _))
  clear h9
  go_end0
  exact ⟨rfl, B9.out, T9.out⟩
set_option linter.unusedSimpArgs false in
set_option linter.unusedVariables false in
set_option maxRecDepth 100000 in
set_option maxHeartbeats 4000000 in
theorem pass_p3 (h : Blk w g 102 #[ch, asd, arr, .int .i64 beg, st, .int .i64 en, .bool bg, .bool true, .int .i64 at_, .int .i64 buf, .int .i64 stl]) (ha : 0 ≤ at_ ∧ at_ ≤ 1000000000000000000) (hb : 0 ≤ buf ∧ buf ≤ 1000000000000) {t : Int} (ht : at_ ≤ t ∧ t ≤ 1000000000000000000) {sts : List (Int × Int)} (hc : buf < t - at_) :
    Calls Try.prog 85 #[.pointer (some ⟨g, 0, none⟩), .int .i64 t] w (PasGives w g ch asd arr st en (passR t ⟨at_, buf, true, bg, stl, beg, sts⟩)) := by
  have hv : passR t ⟨at_, buf, true, bg, stl, beg, sts⟩ = ⟨t, 0, false, bg, at_ + buf, beg, sts⟩ := by
    unfold passR
    grind
  rw [hv]
  clear hv
  obtain ⟨ha1, ha2⟩ := ha
  obtain ⟨hb1, hb2⟩ := hb
  obtain ⟨ht1, ht2⟩ := ht
  have v1 : IntKind.i64.wrap (t - at_) = t - at_ := by rw [IntKind.wrap_i64]; omega
  have v2 : decide (buf ≤ t - at_) = true := by simp; omega
  have v3 : decide (buf < t - at_) = true := by simp; omega
  clear hc
  have T0 := hide (Tw.refl w g none)
  have B0 := hide h
  have c6 := h.cell 6
  have f6 := h.frozen 6
  have c7 := h.cell 7
  have f7 := h.frozen 7
  have c8 := h.cell 8
  have f8 := h.frozen 8
  have c9 := h.cell 9
  have f9 := h.frozen 9
  have c10 := h.cell 10
  have f10 := h.frozen 10
  clear h
  go_enter Try.func85, Try.ntmps85
  go_wp2_with fail
  go_quiet (fail)
  go_wp2_with fail
  refine gen_wpC fun W1 h1 => ?_
  have T1 := hide (show Tw w W1 g none from by rw [h1]; (repeat' (first | (with_reducible exact T0.out) | (with_reducible refine Tw.drew ?_) | (with_reducible refine Tw.drewN ?_ _) | (with_reducible refine Tw.trans ?_ (Tw.set_ _ _ _ _ _)))))
  have B1 := hide (show Blk W1 g 102 #[ch, asd, arr, .int .i64 beg, st, .int .i64 en, .bool bg, .bool true, .int .i64 at_, .int .i64 buf, .int .i64 stl] from by rw [h1]; exact B0.out)
  clear h1 c6 f6 c7 f7 c8 f8 c9 f9 c10 f10
  have c6 := B1.out.cell 6
  have f6 := B1.out.frozen 6
  have c7 := B1.out.cell 7
  have f7 := B1.out.frozen 7
  have c8 := B1.out.cell 8
  have f8 := B1.out.frozen 8
  have c9 := B1.out.cell 9
  have f9 := B1.out.frozen 9
  have c10 := B1.out.cell 10
  have f10 := B1.out.frozen 10
  go_quiet (fail)
  go_upto_region 3 with (fail)
  refine gen_wpC fun W2 h2 => ?_
  have T2 := hide (show Tw w W2 g none from by rw [h2]; (repeat' (first | (with_reducible exact T1.out) | (with_reducible refine Tw.drew ?_) | (with_reducible refine Tw.drewN ?_ _) | (with_reducible refine Tw.trans ?_ (Tw.set_ _ _ _ _ _)))))
  have B2 := hide (show Blk W2 g 102 #[ch, asd, arr, .int .i64 beg, st, .int .i64 en, .bool bg, .bool false, .int .i64 at_, .int .i64 buf, .int .i64 stl] from by rw [h2]; exact (B1.out.set_ 7 _))
  clear h2 c6 f6 c7 f7 c8 f8 c9 f9 c10 f10
  have c6 := B2.out.cell 6
  have f6 := B2.out.frozen 6
  have c7 := B2.out.cell 7
  have f7 := B2.out.frozen 7
  have c8 := B2.out.cell 8
  have f8 := B2.out.frozen 8
  have c9 := B2.out.cell 9
  have f9 := B2.out.frozen 9
  have c10 := B2.out.cell 10
  have f10 := B2.out.frozen 10
  clear v1 v2 v3
  have v4 : IntKind.i64.wrap (at_ + buf) = at_ + buf := by rw [IntKind.wrap_i64]; omega
  go_region
  go_upto_region 4 with (fail)
  refine gen_wpC fun W3 h3 => ?_
  have T3 := hide (show Tw w W3 g none from by rw [h3]; (repeat' (first | (with_reducible exact T2.out) | (with_reducible refine Tw.drew ?_) | (with_reducible refine Tw.drewN ?_ _) | (with_reducible refine Tw.trans ?_ (Tw.set_ _ _ _ _ _)))))
  have B3 := hide (show Blk W3 g 102 #[ch, asd, arr, .int .i64 beg, st, .int .i64 en, .bool bg, .bool false, .int .i64 at_, .int .i64 buf, .int .i64 (at_ + buf)] from by rw [h3]; exact (B2.out.set_ 10 _))
  clear h3 c6 f6 c7 f7 c8 f8 c9 f9 c10 f10
  have c6 := B3.out.cell 6
  have f6 := B3.out.frozen 6
  have c7 := B3.out.cell 7
  have f7 := B3.out.frozen 7
  have c8 := B3.out.cell 8
  have f8 := B3.out.frozen 8
  have c9 := B3.out.cell 9
  have f9 := B3.out.frozen 9
  have c10 := B3.out.cell 10
  have f10 := B3.out.frozen 10
  go_wp2_with fail
  refine gen_bod fun W9 h9 => ?_
  have T9 := hide (show Tw w W9 g none from by rw [h9]; (repeat' (first | (with_reducible exact T3.out) | (with_reducible refine Tw.drew ?_) | (with_reducible refine Tw.drewN ?_ _) | (with_reducible refine Tw.trans ?_ (Tw.set_ _ _ _ _ _)))))
  have B9 := hide (show Blk W9 g 102 #[ch, asd, arr, .int .i64 beg, st, .int .i64 en, .bool bg, .bool false, .int .i64 t, .int .i64 0, .int .i64 (at_ + buf)] from by rw [h9]; exact ((B3.out.set_ 9 _).set_ 8 _))
  clear h9
  go_end0
  exact ⟨rfl, B9.out, T9.out⟩
set_option linter.unusedSimpArgs false in
set_option linter.unusedVariables false in
set_option maxRecDepth 100000 in
set_option maxHeartbeats 4000000 in
theorem pass_p4 (h : Blk w g 102 #[ch, asd, arr, .int .i64 beg, st, .int .i64 en, .bool bg, .bool true, .int .i64 at_, .int .i64 buf, .int .i64 stl]) (ha : 0 ≤ at_ ∧ at_ ≤ 1000000000000000000) (hb : 0 ≤ buf ∧ buf ≤ 1000000000000) {t : Int} (ht : at_ ≤ t ∧ t ≤ 1000000000000000000) {sts : List (Int × Int)} (hc : t - at_ < buf) :
    Calls Try.prog 85 #[.pointer (some ⟨g, 0, none⟩), .int .i64 t] w (PasGives w g ch asd arr st en (passR t ⟨at_, buf, true, bg, stl, beg, sts⟩)) := by
  have hv : passR t ⟨at_, buf, true, bg, stl, beg, sts⟩ = ⟨t, buf - (t - at_), true, bg, stl, beg, sts⟩ := by
    unfold passR
    grind
  rw [hv]
  clear hv
  obtain ⟨ha1, ha2⟩ := ha
  obtain ⟨hb1, hb2⟩ := hb
  obtain ⟨ht1, ht2⟩ := ht
  have v1 : IntKind.i64.wrap (t - at_) = t - at_ := by rw [IntKind.wrap_i64]; omega
  have v2 : decide (buf ≤ t - at_) = false := by simp; omega
  have v4 : IntKind.i64.wrap (buf - (t - at_)) = buf - (t - at_) := by rw [IntKind.wrap_i64]; omega
  clear hc
  have T0 := hide (Tw.refl w g none)
  have B0 := hide h
  have c6 := h.cell 6
  have f6 := h.frozen 6
  have c7 := h.cell 7
  have f7 := h.frozen 7
  have c8 := h.cell 8
  have f8 := h.frozen 8
  have c9 := h.cell 9
  have f9 := h.frozen 9
  have c10 := h.cell 10
  have f10 := h.frozen 10
  clear h
  go_enter Try.func85, Try.ntmps85
  go_wp2_with fail
  go_quiet (fail)
  go_wp2_with fail
  go_upto_region 6 with (fail)
  refine gen_wpC fun W1 h1 => ?_
  have T1 := hide (show Tw w W1 g none from by rw [h1]; (repeat' (first | (with_reducible exact T0.out) | (with_reducible refine Tw.drew ?_) | (with_reducible refine Tw.drewN ?_ _) | (with_reducible refine Tw.trans ?_ (Tw.set_ _ _ _ _ _)))))
  have B1 := hide (show Blk W1 g 102 #[ch, asd, arr, .int .i64 beg, st, .int .i64 en, .bool bg, .bool true, .int .i64 at_, .int .i64 buf, .int .i64 stl] from by rw [h1]; exact B0.out)
  clear h1 c6 f6 c7 f7 c8 f8 c9 f9 c10 f10
  have c6 := B1.out.cell 6
  have f6 := B1.out.frozen 6
  have c7 := B1.out.cell 7
  have f7 := B1.out.frozen 7
  have c8 := B1.out.cell 8
  have f8 := B1.out.frozen 8
  have c9 := B1.out.cell 9
  have f9 := B1.out.frozen 9
  have c10 := B1.out.cell 10
  have f10 := B1.out.frozen 10
  go_region
  go_upto_region 7 with (fail)
  refine gen_wpC fun W2 h2 => ?_
  have T2 := hide (show Tw w W2 g none from by rw [h2]; (repeat' (first | (with_reducible exact T1.out) | (with_reducible refine Tw.drew ?_) | (with_reducible refine Tw.drewN ?_ _) | (with_reducible refine Tw.trans ?_ (Tw.set_ _ _ _ _ _)))))
  have B2 := hide (show Blk W2 g 102 #[ch, asd, arr, .int .i64 beg, st, .int .i64 en, .bool bg, .bool true, .int .i64 at_, .int .i64 (buf - (t - at_)), .int .i64 stl] from by rw [h2]; exact (B1.out.set_ 9 _))
  clear h2 c6 f6 c7 f7 c8 f8 c9 f9 c10 f10
  have c6 := B2.out.cell 6
  have f6 := B2.out.frozen 6
  have c7 := B2.out.cell 7
  have f7 := B2.out.frozen 7
  have c8 := B2.out.cell 8
  have f8 := B2.out.frozen 8
  have c9 := B2.out.cell 9
  have f9 := B2.out.frozen 9
  have c10 := B2.out.cell 10
  have f10 := B2.out.frozen 10
  go_wp2_with fail
  refine gen_bod fun W9 h9 => ?_
  have T9 := hide (show Tw w W9 g none from by rw [h9]; (repeat' (first | (with_reducible exact T2.out) | (with_reducible refine Tw.drew ?_) | (with_reducible refine Tw.drewN ?_ _) | (with_reducible refine Tw.trans ?_ (Tw.set_ _ _ _ _ _)))))
  have B9 := hide (show Blk W9 g 102 #[ch, asd, arr, .int .i64 beg, st, .int .i64 en, .bool bg, .bool true, .int .i64 t, .int .i64 (buf - (t - at_)), .int .i64 stl] from by rw [h9]; exact (B2.out.set_ 8 _))
  clear h9
  go_end0
  exact ⟨rfl, B9.out, T9.out⟩
/-- pass. -/
theorem pass_any (h : Blk w g 102 #[ch, asd, arr, .int .i64 beg, st, .int .i64 en, .bool bg, .bool pl, .int .i64 at_, .int .i64 buf, .int .i64 stl]) (ha : 0 ≤ at_ ∧ at_ ≤ 1000000000000000000) (hb : 0 ≤ buf ∧ buf ≤ 1000000000000) {t : Int} (ht : at_ ≤ t ∧ t ≤ 1000000000000000000) {sts : List (Int × Int)} :
    Calls Try.prog 85 #[.pointer (some ⟨g, 0, none⟩), .int .i64 t] w (PasGives w g ch asd arr st en (passR t ⟨at_, buf, pl, bg, stl, beg, sts⟩)) := by
  cases pl with
  | false => exact pass_p1 h ha hb ht
  | true =>
    by_cases h1 : buf = t - at_
    · exact pass_p2 h ha hb ht h1
    by_cases h2 : buf < t - at_
    · exact pass_p3 h ha hb ht h2
    · exact pass_p4 h ha hb ht (by omega)
set_option maxHeartbeats 1000000 in
/-- rest. -/
theorem rest_any (h : Blk w g 102 #[ch, asd, arr, .int .i64 beg, st, .int .i64 en, .bool bg, .bool pl, .int .i64 at_, .int .i64 buf, .int .i64 stl]) (ha : 0 ≤ at_ ∧ at_ ≤ 1000000000000000000) (hb : 0 ≤ buf ∧ buf ≤ 1000000000000) {t : Int} (ht : at_ ≤ t ∧ t ≤ 1000000000000000000) {sts : List (Int × Int)} :
    Calls Try.prog 72 #[.pointer (some ⟨g, 0, none⟩), .int .i64 t] w (PasGives w g ch asd arr st en (passR t ⟨at_, buf, pl, bg, stl, beg, sts⟩)) := by
  have HP := hide (pass_any h ha hb ht (sts := sts))
  clear h
  go_enter Try.func72, Try.ntmps72
  go_wp2_with fail
  refine HP.out.mono ?_
  rintro e w1 ⟨rfl, b1, t1⟩
  have B1 := hide b1
  have T1 := hide t1
  clear b1 t1
  go_wp2_with fail
  go_end0
  exact ⟨rfl, B1.out, T1.out⟩
set_option maxRecDepth 100000 in
set_option maxHeartbeats 4000000 in
theorem asks_any {d0 s0 r0 f0 i0 k0 l0 t0 lo0 hi0 a0 x0 y0 z0 x : Int} (h : Blk w g 102 #[ch, asd, arr, .int .i64 beg, st, .int .i64 en, .bool bg, .bool pl, .int .i64 at_, .int .i64 buf, .int .i64 stl]) (ha : 0 ≤ at_ ∧ at_ ≤ 1000000000000000000) (hb : 0 ≤ buf ∧ buf ≤ 1000000000000) (hx : 0 ≤ x ∧ x ≤ 1000000000) (hf : 0 ≤ f0 ∧ f0 ≤ 1000000000) {sts : List (Int × Int)} :
    Calls Try.prog 71 #[.pointer (some ⟨g, 0, none⟩), .agg #[.int .i64 d0, .int .i64 s0, .int .i64 r0, .int .i64 f0, .int .i64 i0, .int .i64 k0, .int .i64 l0, .int .i64 t0, .int .i64 lo0, .int .i64 hi0, .int .i64 a0, .int .i64 x0, .int .i64 y0, .int .i64 z0], .int .i64 x] w fun e w' => e = .returned (.int .i64 (askR f0 x ⟨at_, buf, pl, bg, stl, beg, sts⟩)) ∧ Ext w w' := by
  have HB := hide (h.alloc (.cells #[.int .i64 d0, .int .i64 s0, .int .i64 r0, .int .i64 f0, .int .i64 i0, .int .i64 k0, .int .i64 l0, .int .i64 t0, .int .i64 lo0, .int .i64 hi0, .int .i64 a0, .int .i64 x0, .int .i64 y0, .int .i64 z0] 30))
  have HP := hide (Blk.new w 30 #[.int .i64 d0, .int .i64 s0, .int .i64 r0, .int .i64 f0, .int .i64 i0, .int .i64 k0, .int .i64 l0, .int .i64 t0, .int .i64 lo0, .int .i64 hi0, .int .i64 a0, .int .i64 x0, .int .i64 y0, .int .i64 z0])
  have HX := hide (Ext.alloc w (.cells #[.int .i64 d0, .int .i64 s0, .int .i64 r0, .int .i64 f0, .int .i64 i0, .int .i64 k0, .int .i64 l0, .int .i64 t0, .int .i64 lo0, .int .i64 hi0, .int .i64 a0, .int .i64 x0, .int .i64 y0, .int .i64 z0] 30))
  have c7 := HB.out.cell 7
  have c8 := HB.out.cell 8
  have c9 := HB.out.cell 9
  have p3 := HP.out.cell 3
  clear h
  obtain ⟨ha1, ha2⟩ := ha
  obtain ⟨hb1, hb2⟩ := hb
  obtain ⟨hx1, hx2⟩ := hx
  obtain ⟨hf1, hf2⟩ := hf
  have w1 : IntKind.i64.wrap (buf + x) = buf + x := by rw [IntKind.wrap_i64]; omega
  cases pl with
  | false =>
    have hv : askR f0 x ⟨at_, buf, false, bg, stl, beg, sts⟩ = at_ := by unfold askR; simp
    have HV := hide hv
    clear hv
    go_enter Try.func71, Try.ntmps71
    go_wp2_with fail
    go_quiet (fail)
    go_wp2_with fail
    go_ret
    exact ⟨ret_int HV.out.symm, Ext.trans HX.out (Ext.drewN _ _)⟩
  | true =>
    by_cases hq : buf + x ≤ f0
    · have hv : askR f0 x ⟨at_, buf, true, bg, stl, beg, sts⟩ = at_ := by unfold askR; simp [hq]
      have HV := hide hv
      have i1 : decide (buf + x ≤ f0) = true := by simp [hq]
      clear hv hq
      go_enter Try.func71, Try.ntmps71
      go_wp2_with fail
      go_quiet (fail)
      go_wp2_with fail
      go_ret
      exact ⟨ret_int HV.out.symm, Ext.trans HX.out (Ext.drewN _ _)⟩
    · have hv : askR f0 x ⟨at_, buf, true, bg, stl, beg, sts⟩ = at_ + min buf (buf + x - f0) := by unfold askR; simp [hq]
      have HV := hide hv
      have i1 : decide (buf + x ≤ f0) = false := by simp; omega
      have w2 : IntKind.i64.wrap (buf + x - f0) = buf + x - f0 := by rw [IntKind.wrap_i64]; omega
      have w3 : IntKind.i64.wrap (at_ + min buf (buf + x - f0)) = at_ + min buf (buf + x - f0) := by rw [IntKind.wrap_i64]; omega
      clear hv hq
      go_enter Try.func71, Try.ntmps71
      go_wp2_with fail
      go_quiet (fail)
      go_wp2_with fail
      refine gen_wpC fun W1 h1 => ?_
      have HB2 := hide (show Blk W1 g 102 #[ch, asd, arr, .int .i64 beg, st, .int .i64 en, .bool bg, .bool true, .int .i64 at_, .int .i64 buf, .int .i64 stl] from by rw [h1]; exact HB.out.drewN nq)
      have HP2 := hide (show Blk W1 w.heap.size 30 #[.int .i64 d0, .int .i64 s0, .int .i64 r0, .int .i64 f0, .int .i64 i0, .int .i64 k0, .int .i64 l0, .int .i64 t0, .int .i64 lo0, .int .i64 hi0, .int .i64 a0, .int .i64 x0, .int .i64 y0, .int .i64 z0] from by rw [h1]; exact HP.out.drewN nq)
      have X1 := hide (show Ext w W1 from by rw [h1]; exact Ext.trans HX.out (Ext.drewN _ _))
      clear h1
      have d8 := HB2.out.cell 8
      have d9 := HB2.out.cell 9
      have p4 := HP2.out.cell 3
      clear c7 c8 c9 p3
      go_quiet (fail)
      go_wp2_with fail
      go_ret
      exact ⟨ret_int HV.out.symm, Ext.trans X1.out (Ext.drewN _ _)⟩
end
end Go.Proofs.Ytjbgkoeojfmkkaa
