/- Walk: come of the document's course. Conditions as stated. -/
import Derived.Test.YtjbgkoeojfmkkaaCrsA
import Derived.Test.YtjbgkoeojfmkkaaHeldZ
import Derived.Test.YtjbgkoeojfmkkaaPairs
namespace Go.Proofs.Ytjbgkoeojfmkkaa
open Go.RowKit

theorem Try.infoSpan : (Try.prog.info? 81).map (fun i => (i.zero, i.size, i.bytes)) = some (some (.agg #[.int .i64 0, .int .i64 0]), 2, 16) := by kernel_rfl
/-- What the append of a stall reads. -/
def ComS (g : Nat) (st : Value) (stl : Int) (W : World) : Prop := W.cell? ⟨g, 4, none⟩ = some st ∧ W.cell? ⟨g, 10, none⟩ = some (.int .i64 stl)
theorem ComS.ext {g : Nat} {st : Value} {stl : Int} {w w' : World} (h : ComS g st stl w) (he : Ext w w') : ComS g st stl w' := ⟨he.cell h.1, he.cell h.2⟩
theorem passR_parts {t : Int} {s : WaT} (hb : 0 ≤ s.buf) (ht : s.at_ ≤ t) : (passR t s).at_ = t ∧ 0 ≤ (passR t s).buf ∧ (passR t s).buf ≤ s.buf ∧ (passR t s).begun = s.begun ∧ (passR t s).beg = s.beg ∧ (passR t s).stalls = s.stalls := by
  obtain ⟨a0, b0, p0, g0, s0, e0, l0⟩ := s
  unfold passR
  cases p0 <;> grind
theorem comeR_eq {start resume long t : Int} {last : Bool} {s : WaT} : comeR start resume long t last s =
    (if (passR t s).plays = true then { passR t s with buf := (passR t s).buf + long }
     else if (passR t s).buf + long < (if (passR t s).begun = true then resume else start) ∧ last = false then { passR t s with buf := (passR t s).buf + long }
     else if (passR t s).begun = true then { passR t s with buf := (passR t s).buf + long, plays := true, stalls := (passR t s).stalls ++ [((passR t s).stalled, t)] } else { passR t s with buf := (passR t s).buf + long, plays := true, begun := true, beg := t }) := rfl
section
variable {ch asd arr st ld : Value} {beg en at_ buf stl : Int} {pl bg : Bool} {g B : Nat} {w : World}
/-- What come leaves behind. -/
def ComGives (w : World) (g B : Nat) (ch asd arr st : Value) (en : Int) (x : WaT) (e : Ending) (w' : World) : Prop :=
  ∃ st' : Value, e = .returned (.tuple #[]) ∧ Blk w' g 102 #[ch, asd, arr, .int .i64 x.beg, st', .int .i64 en, .bool x.begun, .bool x.plays, .int .i64 x.at_, .int .i64 x.buf, .int .i64 x.stalled] ∧
    Own w' B 81 2 e2 st' x.stalls ∧ Tw w w' g st.ownBlock ∧ (st'.ownBlock = st.ownBlock ∨ ∃ b, st'.ownBlock = some b ∧ w.heap.size ≤ b)

set_option linter.unusedSimpArgs false in
set_option linter.unusedVariables false in
set_option maxRecDepth 100000 in
set_option maxHeartbeats 8000000 in
theorem come_any {d0 s0 r0 f0 i0 k0 l0 t0 lo0 hi0 a0 x0 y0 z0 x : Int} {la : Bool} (h : Blk w g 102 #[ch, asd, arr, .int .i64 beg, st, .int .i64 en, .bool bg, .bool pl, .int .i64 at_, .int .i64 buf, .int .i64 stl]) (ha : 0 ≤ at_ ∧ at_ ≤ 1000000000000000000) (hb : 0 ≤ buf ∧ buf ≤ 1000000000000) (hx : 0 ≤ x ∧ x ≤ 1000000000) {t : Int} (ht : at_ ≤ t ∧ t ≤ 1000000000000000000) {sts : List (Int × Int)} (hO : Own w B 81 2 e2 st sts) (hB : g < B) (hBw : B ≤ w.heap.size) (hsl : sts.length ≤ 1000) :
    Calls Try.prog 75 #[.pointer (some ⟨g, 0, none⟩), .agg #[.int .i64 d0, .int .i64 s0, .int .i64 r0, .int .i64 f0, .int .i64 i0, .int .i64 k0, .int .i64 l0, .int .i64 t0, .int .i64 lo0, .int .i64 hi0, .int .i64 a0, .int .i64 x0, .int .i64 y0, .int .i64 z0], .int .i64 x, .int .i64 t, .bool la] w (ComGives w g B ch asd arr st en (comeR s0 r0 x t la ⟨at_, buf, pl, bg, stl, beg, sts⟩)) := by
  have HO := hide hO
  have HP := hide (pass_any (h.alloc (.cells #[.int .i64 d0, .int .i64 s0, .int .i64 r0, .int .i64 f0, .int .i64 i0, .int .i64 k0, .int .i64 l0, .int .i64 t0, .int .i64 lo0, .int .i64 hi0, .int .i64 a0, .int .i64 x0, .int .i64 y0, .int .i64 z0] 30)) ha hb ht (sts := sts))
  have PP := hide (Blk.new w 30 #[.int .i64 d0, .int .i64 s0, .int .i64 r0, .int .i64 f0, .int .i64 i0, .int .i64 k0, .int .i64 l0, .int .i64 t0, .int .i64 lo0, .int .i64 hi0, .int .i64 a0, .int .i64 x0, .int .i64 y0, .int .i64 z0])
  have hv := comeR_eq (start := s0) (resume := r0) (long := x) (t := t) (last := la) (s := ⟨at_, buf, pl, bg, stl, beg, sts⟩)
  obtain ⟨q1, q2, q3, q4, q5, q6⟩ := passR_parts (t := t) (s := ⟨at_, buf, pl, bg, stl, beg, sts⟩) hb.1 ht.1
  have hgw := h.lt
  generalize passR t ⟨at_, buf, pl, bg, stl, beg, sts⟩ = q at *
  generalize comeR s0 r0 x t la ⟨at_, buf, pl, bg, stl, beg, sts⟩ = v at *
  obtain ⟨qat, qbuf, qpl, qbg, qstl, qbeg, qsts⟩ := q
  simp only at q1 q2 q3 q4 q5 q6 hv
  subst q1 q4 q5 q6
  obtain ⟨ha1, ha2⟩ := ha
  obtain ⟨hb1, hb2⟩ := hb
  obtain ⟨hx1, hx2⟩ := hx
  obtain ⟨ht1, ht2⟩ := ht
  clear h hO
  cases qpl with
  | true =>
    obtain rfl : v = ⟨qat, qbuf + x, true, qbg, qstl, qbeg, qsts⟩ := by rw [hv]; simp
    clear hv
    go_enter Try.func75, Try.ntmps75
    go_wp2_with fail
    refine HP.out.mono ?_
    rintro e w1 ⟨rfl, b1, t1⟩
    have T1 := hide ((Tw.of_ext (Ext.alloc w (.cells #[.int .i64 d0, .int .i64 s0, .int .i64 r0, .int .i64 f0, .int .i64 i0, .int .i64 k0, .int .i64 l0, .int .i64 t0, .int .i64 lo0, .int .i64 hi0, .int .i64 a0, .int .i64 x0, .int .i64 y0, .int .i64 z0] 30)) g none).trans t1)
    have hgp : w.heap.size ≠ g := by omega
    have P0 := hide (t1.blk PP.out hgp (by simp))
    have B0 := hide b1
    have T0 := hide (Tw.refl w1 g none)
    clear b1 t1 HP PP
    have v1 : IntKind.i64.wrap (qbuf + x) = qbuf + x := by rw [IntKind.wrap_i64]; omega
    have c3 := B0.out.cell 3
    have f3 := B0.out.frozen 3
    have c4 := B0.out.cell 4
    have f4 := B0.out.frozen 4
    have c6 := B0.out.cell 6
    have f6 := B0.out.frozen 6
    have c7 := B0.out.cell 7
    have f7 := B0.out.frozen 7
    have c9 := B0.out.cell 9
    have f9 := B0.out.frozen 9
    have c10 := B0.out.cell 10
    have f10 := B0.out.frozen 10
    have p1 := P0.out.cell 1
    have p2 := P0.out.cell 2
    go_upto_region 3 with (fail)
    refine gen_wpC fun W2 h2 => ?_
    have T2 := hide (show Tw w1 W2 g none from by rw [h2]; (repeat' (first | (with_reducible exact T0.out) | (with_reducible refine Tw.drew ?_) | (with_reducible refine Tw.drewN ?_ _) | (with_reducible refine Tw.trans ?_ (Tw.set_ _ _ _ _ _)))))
    have B2 := hide (show Blk W2 g 102 #[ch, asd, arr, .int .i64 qbeg, st, .int .i64 en, .bool qbg, .bool true, .int .i64 qat, .int .i64 (qbuf + x), .int .i64 qstl] from by rw [h2]; exact (B0.out.set_ 9 _))
    have P2 := hide (T2.out.blk P0.out hgp (by simp))
    clear h2 c3 f3 c4 f4 c6 f6 c7 f7 c9 f9 c10 f10 p1 p2
    have c3 := B2.out.cell 3
    have f3 := B2.out.frozen 3
    have c4 := B2.out.cell 4
    have f4 := B2.out.frozen 4
    have c6 := B2.out.cell 6
    have f6 := B2.out.frozen 6
    have c7 := B2.out.cell 7
    have f7 := B2.out.frozen 7
    have c9 := B2.out.cell 9
    have f9 := B2.out.frozen 9
    have c10 := B2.out.cell 10
    have f10 := B2.out.frozen 10
    have p1 := P2.out.cell 1
    have p2 := P2.out.cell 2
    clear v1
    go_wp2_with fail
    refine gen_bod fun W9 h9 => ?_
    have T9 := hide (show Tw w1 W9 g none from by rw [h9]; (repeat' (first | (with_reducible exact T2.out) | (with_reducible refine Tw.drew ?_) | (with_reducible refine Tw.drewN ?_ _) | (with_reducible refine Tw.trans ?_ (Tw.set_ _ _ _ _ _)))))
    have B9 := hide (show Blk W9 g 102 #[ch, asd, arr, .int .i64 qbeg, st, .int .i64 en, .bool qbg, .bool true, .int .i64 qat, .int .i64 (qbuf + x), .int .i64 qstl] from by rw [h9]; exact B2.out)
    clear h9
    go_end0
    exact ⟨st, rfl, B9.out, (HO.out.tw (T1.out.trans T9.out) (fun e => by have := (HO.out.lt g e).1; omega) (fun _ _ h => by cases h)), (T1.out.trans T9.out).more _, .inl rfl⟩
  | false =>
    cases qbg with
    | true =>
      by_cases hq : qbuf + x < r0
      · cases la with
        | false =>
          obtain rfl : v = ⟨qat, qbuf + x, false, true, qstl, qbeg, qsts⟩ := by rw [hv]; simp [hq]
          clear hv
          have j1 : decide (qbuf + x < r0) = true := by simp [hq]
          clear hq
          go_enter Try.func75, Try.ntmps75
          go_wp2_with fail
          refine HP.out.mono ?_
          rintro e w1 ⟨rfl, b1, t1⟩
          have T1 := hide ((Tw.of_ext (Ext.alloc w (.cells #[.int .i64 d0, .int .i64 s0, .int .i64 r0, .int .i64 f0, .int .i64 i0, .int .i64 k0, .int .i64 l0, .int .i64 t0, .int .i64 lo0, .int .i64 hi0, .int .i64 a0, .int .i64 x0, .int .i64 y0, .int .i64 z0] 30)) g none).trans t1)
          have hgp : w.heap.size ≠ g := by omega
          have P0 := hide (t1.blk PP.out hgp (by simp))
          have B0 := hide b1
          have T0 := hide (Tw.refl w1 g none)
          clear b1 t1 HP PP
          have v1 : IntKind.i64.wrap (qbuf + x) = qbuf + x := by rw [IntKind.wrap_i64]; omega
          have c3 := B0.out.cell 3
          have f3 := B0.out.frozen 3
          have c4 := B0.out.cell 4
          have f4 := B0.out.frozen 4
          have c6 := B0.out.cell 6
          have f6 := B0.out.frozen 6
          have c7 := B0.out.cell 7
          have f7 := B0.out.frozen 7
          have c9 := B0.out.cell 9
          have f9 := B0.out.frozen 9
          have c10 := B0.out.cell 10
          have f10 := B0.out.frozen 10
          have p1 := P0.out.cell 1
          have p2 := P0.out.cell 2
          go_upto_region 3 with (fail)
          refine gen_wpC fun W2 h2 => ?_
          have T2 := hide (show Tw w1 W2 g none from by rw [h2]; (repeat' (first | (with_reducible exact T0.out) | (with_reducible refine Tw.drew ?_) | (with_reducible refine Tw.drewN ?_ _) | (with_reducible refine Tw.trans ?_ (Tw.set_ _ _ _ _ _)))))
          have B2 := hide (show Blk W2 g 102 #[ch, asd, arr, .int .i64 qbeg, st, .int .i64 en, .bool true, .bool false, .int .i64 qat, .int .i64 (qbuf + x), .int .i64 qstl] from by rw [h2]; exact (B0.out.set_ 9 _))
          have P2 := hide (T2.out.blk P0.out hgp (by simp))
          clear h2 c3 f3 c4 f4 c6 f6 c7 f7 c9 f9 c10 f10 p1 p2
          have c3 := B2.out.cell 3
          have f3 := B2.out.frozen 3
          have c4 := B2.out.cell 4
          have f4 := B2.out.frozen 4
          have c6 := B2.out.cell 6
          have f6 := B2.out.frozen 6
          have c7 := B2.out.cell 7
          have f7 := B2.out.frozen 7
          have c9 := B2.out.cell 9
          have f9 := B2.out.frozen 9
          have c10 := B2.out.cell 10
          have f10 := B2.out.frozen 10
          have p1 := P2.out.cell 1
          have p2 := P2.out.cell 2
          clear v1
          go_wp2_with fail
          refine gen_bod fun W9 h9 => ?_
          have T9 := hide (show Tw w1 W9 g none from by rw [h9]; (repeat' (first | (with_reducible exact T2.out) | (with_reducible refine Tw.drew ?_) | (with_reducible refine Tw.drewN ?_ _) | (with_reducible refine Tw.trans ?_ (Tw.set_ _ _ _ _ _)))))
          have B9 := hide (show Blk W9 g 102 #[ch, asd, arr, .int .i64 qbeg, st, .int .i64 en, .bool true, .bool false, .int .i64 qat, .int .i64 (qbuf + x), .int .i64 qstl] from by rw [h9]; exact B2.out)
          clear h9
          go_end0
          exact ⟨st, rfl, B9.out, (HO.out.tw (T1.out.trans T9.out) (fun e => by have := (HO.out.lt g e).1; omega) (fun _ _ h => by cases h)), (T1.out.trans T9.out).more _, .inl rfl⟩
        | true =>
          obtain rfl : v = ⟨qat, qbuf + x, true, true, qstl, qbeg, qsts ++ [(qstl, qat)]⟩ := by rw [hv]; simp [hq]
          clear hv
          have j1 : decide (qbuf + x < r0) = true := by simp [hq]
          clear hq
          go_enter Try.func75, Try.ntmps75
          go_wp2_with fail
          refine HP.out.mono ?_
          rintro e w1 ⟨rfl, b1, t1⟩
          have T1 := hide ((Tw.of_ext (Ext.alloc w (.cells #[.int .i64 d0, .int .i64 s0, .int .i64 r0, .int .i64 f0, .int .i64 i0, .int .i64 k0, .int .i64 l0, .int .i64 t0, .int .i64 lo0, .int .i64 hi0, .int .i64 a0, .int .i64 x0, .int .i64 y0, .int .i64 z0] 30)) g none).trans t1)
          have hgp : w.heap.size ≠ g := by omega
          have P0 := hide (t1.blk PP.out hgp (by simp))
          have B0 := hide b1
          have T0 := hide (Tw.refl w1 g none)
          clear b1 t1 HP PP
          have v1 : IntKind.i64.wrap (qbuf + x) = qbuf + x := by rw [IntKind.wrap_i64]; omega
          have c3 := B0.out.cell 3
          have f3 := B0.out.frozen 3
          have c4 := B0.out.cell 4
          have f4 := B0.out.frozen 4
          have c6 := B0.out.cell 6
          have f6 := B0.out.frozen 6
          have c7 := B0.out.cell 7
          have f7 := B0.out.frozen 7
          have c9 := B0.out.cell 9
          have f9 := B0.out.frozen 9
          have c10 := B0.out.cell 10
          have f10 := B0.out.frozen 10
          have p1 := P0.out.cell 1
          have p2 := P0.out.cell 2
          go_upto_region 3 with (fail)
          refine gen_wpC fun W2 h2 => ?_
          have T2 := hide (show Tw w1 W2 g none from by rw [h2]; (repeat' (first | (with_reducible exact T0.out) | (with_reducible refine Tw.drew ?_) | (with_reducible refine Tw.drewN ?_ _) | (with_reducible refine Tw.trans ?_ (Tw.set_ _ _ _ _ _)))))
          have B2 := hide (show Blk W2 g 102 #[ch, asd, arr, .int .i64 qbeg, st, .int .i64 en, .bool true, .bool false, .int .i64 qat, .int .i64 (qbuf + x), .int .i64 qstl] from by rw [h2]; exact (B0.out.set_ 9 _))
          have P2 := hide (T2.out.blk P0.out hgp (by simp))
          clear h2 c3 f3 c4 f4 c6 f6 c7 f7 c9 f9 c10 f10 p1 p2
          have c3 := B2.out.cell 3
          have f3 := B2.out.frozen 3
          have c4 := B2.out.cell 4
          have f4 := B2.out.frozen 4
          have c6 := B2.out.cell 6
          have f6 := B2.out.frozen 6
          have c7 := B2.out.cell 7
          have f7 := B2.out.frozen 7
          have c9 := B2.out.cell 9
          have f9 := B2.out.frozen 9
          have c10 := B2.out.cell 10
          have f10 := B2.out.frozen 10
          have p1 := P2.out.cell 1
          have p2 := P2.out.cell 2
          clear v1
          go_upto_region 10 with (fail)
          refine gen_wpC fun W3 h3 => ?_
          have T3 := hide (show Tw w1 W3 g none from by rw [h3]; (repeat' (first | (with_reducible exact T2.out) | (with_reducible refine Tw.drew ?_) | (with_reducible refine Tw.drewN ?_ _) | (with_reducible refine Tw.trans ?_ (Tw.set_ _ _ _ _ _)))))
          have B3 := hide (show Blk W3 g 102 #[ch, asd, arr, .int .i64 qbeg, st, .int .i64 en, .bool true, .bool true, .int .i64 qat, .int .i64 (qbuf + x), .int .i64 qstl] from by rw [h3]; exact (B2.out.set_ 7 _))
          have P3 := hide (T3.out.blk P0.out hgp (by simp))
          clear h3 c3 f3 c4 f4 c6 f6 c7 f7 c9 f9 c10 f10 p1 p2
          have c3 := B3.out.cell 3
          have f3 := B3.out.frozen 3
          have c4 := B3.out.cell 4
          have f4 := B3.out.frozen 4
          have c6 := B3.out.cell 6
          have f6 := B3.out.frozen 6
          have c7 := B3.out.cell 7
          have f7 := B3.out.frozen 7
          have c9 := B3.out.cell 9
          have f9 := B3.out.frozen 9
          have c10 := B3.out.cell 10
          have f10 := B3.out.frozen 10
          have p1 := P3.out.cell 1
          have p2 := P3.out.cell 2
          clear c3 f3 c4 f4 c6 f6 c7 f7 c9 f9 c10 f10 p1 p2
          obtain ⟨i9, hi9, hz0, hz1, hz2⟩ := info_parts Try.infoSpan
          have HOk := hide (HO.out.tw (T1.out.trans T3.out) (fun e => by have := (HO.out.lt g e).1; omega) (fun _ _ h => by cases h))
          have HC9 : Hid (ComS g st (qstl) W3) := hide ⟨B3.out.cell 4, B3.out.cell 10⟩
          have hC9 := HC9.out.ext (Ext.drew W3)
          have S1 : Hid (qsts.length + 1 ≤ maxLen) := hide (by unfold maxLen; omega)
          have S2 : Hid ((qsts.length + 1) * 16 ≤ 140737488355328) := hide (by omega)
          have HBW : Hid (B ≤ W3.heap.size) := hide (Nat.le_trans hBw (T1.out.trans T3.out).size)
          refine region_z (S := ComS g st (qstl)) 14 (by kernel_rfl) ?_
          refine AnyZ.take (i := 0) (oi := _) (v := ?_) rfl rfl (by kernel_rfl) (by kernel_rfl) (by kernel_rfl) (by kernel_rfl) (by kernel_rfl) (by kernel_rfl) (fun _ _ _ h => h) (Or.inl ⟨by rfl, ?_⟩) hC9 ?_
          rotate_left
          · intro W hW; obtain ⟨s1, s2⟩ := hW; first | (go_simp; done) | (go_simp; with_reducible rfl)
          simp only [Act.put, List.setIfInBounds_toArray, List.set_cons_zero, List.set_cons_succ]
          refine AnyZ.take (i := 1) (oi := _) (v := ?_) rfl rfl (by kernel_rfl) (by kernel_rfl) (by kernel_rfl) (by kernel_rfl) (by kernel_rfl) (by kernel_rfl) (fun _ _ _ h => h) (Or.inl ⟨by rfl, ?_⟩) hC9 ?_
          rotate_left
          · intro W hW; obtain ⟨s1, s2⟩ := hW; first | (go_simp; done) | (go_simp; with_reducible rfl)
          simp only [Act.put, List.setIfInBounds_toArray, List.set_cons_zero, List.set_cons_succ]
          refine AnyZ.take (i := 2) (oi := _) (v := ?_) rfl rfl (by kernel_rfl) (by kernel_rfl) (by kernel_rfl) (by kernel_rfl) (by kernel_rfl) (by kernel_rfl) (fun _ _ _ h => h) (Or.inl ⟨by rfl, ?_⟩) hC9 ?_
          rotate_left
          · intro W hW; obtain ⟨s1, s2⟩ := hW; first | (go_simp; done) | (go_simp; with_reducible rfl)
          simp only [Act.put, List.setIfInBounds_toArray, List.set_cons_zero, List.set_cons_succ]
          refine AnyZ.take (i := 3) (oi := _) (v := ?_) rfl rfl (by kernel_rfl) (by kernel_rfl) (by kernel_rfl) (by kernel_rfl) (by kernel_rfl) (by kernel_rfl) (fun _ _ _ h => h) (Or.inl ⟨by rfl, ?_⟩) hC9 ?_
          rotate_left
          · intro W hW; obtain ⟨s1, s2⟩ := hW; first | (go_simp; done) | (go_simp; with_reducible rfl)
          simp only [Act.put, List.setIfInBounds_toArray, List.set_cons_zero, List.set_cons_succ]
          refine AnyZ.take (i := 4) (oi := _) (v := ?_) rfl rfl (by kernel_rfl) (by kernel_rfl) (by kernel_rfl) (by kernel_rfl) (by kernel_rfl) (by kernel_rfl) (fun _ _ _ h => h) (Or.inl ⟨by rfl, ?_⟩) hC9 ?_
          rotate_left
          · intro W hW; obtain ⟨s1, s2⟩ := hW; first | (go_simp; done) | (go_simp; with_reducible rfl)
          simp only [Act.put, List.setIfInBounds_toArray, List.set_cons_zero, List.set_cons_succ]
          refine AnyZ.take (i := 5) (oi := _) (v := ?_) rfl rfl (by kernel_rfl) (by kernel_rfl) (by kernel_rfl) (by kernel_rfl) (by kernel_rfl) (by kernel_rfl) (fun _ _ _ h => h) (Or.inl ⟨by rfl, ?_⟩) hC9 ?_
          rotate_left
          · intro W hW; obtain ⟨s1, s2⟩ := hW; first | (go_simp; done) | (go_simp; with_reducible rfl)
          simp only [Act.put, List.setIfInBounds_toArray, List.set_cons_zero, List.set_cons_succ]
          refine AnyZ.take (i := 6) (oi := _) (v := ?_) rfl rfl (by kernel_rfl) (by kernel_rfl) (by kernel_rfl) (by kernel_rfl) (by kernel_rfl) (by kernel_rfl) (fun _ _ _ h => h) (Or.inl ⟨by rfl, ?_⟩) hC9 ?_
          rotate_left
          · intro W hW; obtain ⟨s1, s2⟩ := hW; first | (go_simp; done) | (go_simp; with_reducible rfl)
          simp only [Act.put, List.setIfInBounds_toArray, List.set_cons_zero, List.set_cons_succ]
          refine AnyZ.take (i := 7) (oi := _) (v := ?_) rfl rfl (by kernel_rfl) (by kernel_rfl) (by kernel_rfl) (by kernel_rfl) (by kernel_rfl) (by kernel_rfl) (fun _ _ _ h => h) (Or.inl ⟨by rfl, ?_⟩) hC9 ?_
          rotate_left
          · intro W hW; obtain ⟨s1, s2⟩ := hW; first | (go_simp; done) | (go_simp; with_reducible rfl)
          simp only [Act.put, List.setIfInBounds_toArray, List.set_cons_zero, List.set_cons_succ]
          refine AnyZ.take (i := 8) (oi := _) (v := ?_) rfl rfl (by kernel_rfl) (by kernel_rfl) (by kernel_rfl) (by kernel_rfl) (by kernel_rfl) (by kernel_rfl) (fun _ _ _ h => h) (Or.inl ⟨by rfl, ?_⟩) hC9 ?_
          rotate_left
          · intro W hW; obtain ⟨s1, s2⟩ := hW; first | (go_simp; done) | (go_simp; with_reducible rfl)
          simp only [Act.put, List.setIfInBounds_toArray, List.set_cons_zero, List.set_cons_succ]
          refine AnyZ.take (i := 9) (oi := _) (v := ?_) rfl rfl (by kernel_rfl) (by kernel_rfl) (by kernel_rfl) (by kernel_rfl) (by kernel_rfl) (by kernel_rfl) (fun _ _ _ h => h) (Or.inl ⟨by rfl, ?_⟩) hC9 ?_
          rotate_left
          · intro W hW; obtain ⟨s1, s2⟩ := hW; first | (go_simp; done) | (go_simp; with_reducible rfl)
          simp only [Act.put, List.setIfInBounds_toArray, List.set_cons_zero, List.set_cons_succ]
          refine AnyZ.take (i := 10) (oi := _) (v := ?_) rfl rfl (by kernel_rfl) (by kernel_rfl) (by kernel_rfl) (by kernel_rfl) (by kernel_rfl) (by kernel_rfl) (fun _ _ _ h => h) (Or.inl ⟨by rfl, ?_⟩) hC9 ?_
          rotate_left
          · intro W hW; obtain ⟨s1, s2⟩ := hW; first | (go_simp; done) | (go_simp; with_reducible rfl)
          simp only [Act.put, List.setIfInBounds_toArray, List.set_cons_zero, List.set_cons_succ]
          refine AnyZ.take (i := 11) (oi := _) (v := ?_) rfl rfl (by kernel_rfl) (by kernel_rfl) (by kernel_rfl) (by kernel_rfl) (by kernel_rfl) (by kernel_rfl) (fun _ _ _ h => h) (Or.inl ⟨by rfl, ?_⟩) hC9 ?_
          rotate_left
          · intro W hW; obtain ⟨s1, s2⟩ := hW; first | (go_simp; done) | (go_simp; with_reducible rfl)
          simp only [Act.put, List.setIfInBounds_toArray, List.set_cons_zero, List.set_cons_succ]
          refine AnyZ.step (i := 12) rfl (by kernel_rfl) (fun K hK => ?_)
          go_simp
          refine hK.out _ _ (fun _ => ?_) ?_
          · exact HC9.out.ext (by repeat' (first | (with_reducible exact Below.refl _ _) | (with_reducible assumption) | (with_reducible refine below_drewN ?_ _) | (with_reducible refine Below.drew ?_) | (with_reducible refine ext_alloc ?_ _) | (with_reducible refine Below.setCell ?_ ?_ _) | go_size))
          clear hK K
          refine AnyZ.step (i := 13) rfl (by kernel_rfl) (fun K hK => ?_)
          refine step_append_at rfl _ _ 31 rfl B 81 i9 _ 16 Try.underlying31 hi9 hz0 hz1 hz2 rfl (by omega) len_e2 one_e2 _ _ (by rfl) (HOk.out.ext (by repeat' (first | (with_reducible exact Below.refl _ _) | (with_reducible assumption) | (with_reducible refine below_drewN ?_ _) | (with_reducible refine Below.drew ?_) | (with_reducible refine ext_alloc ?_ _) | (with_reducible refine Below.setCell ?_ ?_ _) | go_size))) (some ⟨W3.heap.size, 0, none⟩) 1 1 [(qstl, qat)] (by simp [Act.eval]) ((At.pair1 W3 (qstl) qat _).ext (by repeat' (first | (with_reducible exact Below.refl _ _) | (with_reducible assumption) | (with_reducible refine below_drewN ?_ _) | (with_reducible refine Below.drew ?_) | (with_reducible refine ext_alloc ?_ _) | (with_reducible refine Below.setCell ?_ ?_ _) | go_size))) S1.out S2.out (Nat.le_trans HBW.out (by simp)) ?_
          intro v7 w7 o7 g7 _ hob
          obtain ⟨A7, c7, hv7, _⟩ := o7.at_ len_e2
          rw [List.length_append] at hv7
          have hv7 : v7 = .slice A7 (qsts.length + 1) c7 := hv7
          subst hv7
          have hno : some g ≠ st.ownBlock := fun e => by have := (HO.out.lt g e.symm).1; omega
          have X7 : Hid (ComS g st (qstl) w7) := hide ⟨g7.cell (HC9.out.ext (by repeat' (first | (with_reducible exact Below.refl _ _) | (with_reducible assumption) | (with_reducible refine below_drewN ?_ _) | (with_reducible refine Below.drew ?_) | (with_reducible refine ext_alloc ?_ _) | (with_reducible refine Below.setCell ?_ ?_ _) | go_size))).1 hno, g7.cell (HC9.out.ext (by repeat' (first | (with_reducible exact Below.refl _ _) | (with_reducible assumption) | (with_reducible refine below_drewN ?_ _) | (with_reducible refine Below.drew ?_) | (with_reducible refine ext_alloc ?_ _) | (with_reducible refine Below.setCell ?_ ?_ _) | go_size))).2 hno⟩
          refine hK.out _ _ (fun _ => X7.out) ?_
          clear hK K
          simp only [Act.put, List.setIfInBounds_toArray, List.set_cons_zero, List.set_cons_succ]
          have B7 := hide ((B3.out.ext (show Ext W3 _ from (by repeat' (first | (with_reducible exact Below.refl _ _) | (with_reducible assumption) | (with_reducible refine below_drewN ?_ _) | (with_reducible refine Below.drew ?_) | (with_reducible refine ext_alloc ?_ _) | (with_reducible refine Below.setCell ?_ ?_ _) | go_size)))).grown g7 hno)
          have T7 := hide (((T1.out.trans T3.out).more st.ownBlock).trans ((Tw.of_ext (show Ext W3 _ from (by repeat' (first | (with_reducible exact Below.refl _ _) | (with_reducible assumption) | (with_reducible refine below_drewN ?_ _) | (with_reducible refine Below.drew ?_) | (with_reducible refine ext_alloc ?_ _) | (with_reducible refine Below.setCell ?_ ?_ _) | go_size))) g st.ownBlock).trans (Tw.of_grown g7)))
          have O7 := hide o7
          have H7 : Hid ((Value.slice A7 (qsts.length + 1) c7).ownBlock = st.ownBlock ∨ ∃ q, (Value.slice A7 (qsts.length + 1) c7).ownBlock = some q ∧ w.heap.size ≤ q) := hide (by
            have hz7 := (T1.out.trans T3.out).size
            rcases hob with hob | hob
            · exact .inl hob
            · exact .inr ⟨_, hob, by simp; omega⟩)
          have c4 := B7.out.cell 4
          have f4 := B7.out.frozen 4
          clear o7 g7 hob hno hC9
          refine AnyZ.step (i := 14) rfl (by kernel_rfl) (fun K hK => ?_)
          go_simp
          refine hK.out _ _ (fun h => ?_) ?_
          · exact absurd (h.symm.trans (show _ = true by kernel_rfl)) (by simp)
          clear hK K
          refine AnyZ.step (i := 15) rfl (by kernel_rfl) (fun K hK => ?_)
          go_simp
          refine hK.out _ _ (fun h => ?_) ?_
          · exact absurd (h.symm.trans (show _ = true by kernel_rfl)) (by simp)
          clear hK K
          refine AnyZ.step (i := 16) rfl (by kernel_rfl) (fun K hK => ?_)
          go_simp
          refine hK.out _ _ (fun h => ?_) ?_
          · exact absurd (h.symm.trans (show _ = true by kernel_rfl)) (by simp)
          clear hK K
          refine AnyZ.step (i := 17) rfl (by kernel_rfl) (fun K hK => ?_)
          go_simp
          refine hK.out _ _ (fun h => ?_) ?_
          · exact absurd (h.symm.trans (show _ = true by kernel_rfl)) (by simp)
          clear hK K
          refine AnyZ.done (by kernel_rfl) ?_ _
          first | refine gen_blo fun W8 h8 => ?_ | refine gen_the fun W8 h8 => ?_ | refine gen_bod fun W8 h8 => ?_
          have B8 := hide (show Blk W8 g 102 #[ch, asd, arr, .int .i64 qbeg, .slice A7 (qsts.length + 1) c7, .int .i64 en, .bool true, .bool true, .int .i64 qat, .int .i64 (qbuf + x), .int .i64 qstl] from by rw [h8]; exact B7.out.set_ 4 _)
          have T8 := hide (show Tw w W8 g st.ownBlock from by rw [h8]; exact T7.out.trans (Tw.set_ _ _ _ _ _))
          have O8 := hide (show Own W8 B 81 2 e2 (.slice A7 (qsts.length + 1) c7) _ from by rw [h8]; exact O7.out.kept (grown_set _ g 4 _) (.inr (fun e => by have := (O7.out.lt g e).1; omega)))
          clear h8 c4 f4
          go_wp2_with fail
          go_end0
          exact ⟨_, rfl, B8.out, O8.out, T8.out, H7.out⟩
      · skip
        obtain rfl : v = ⟨qat, qbuf + x, true, true, qstl, qbeg, qsts ++ [(qstl, qat)]⟩ := by rw [hv]; simp [hq]
        clear hv
        have j1 : decide (qbuf + x < r0) = false := by simp [hq]
        clear hq
        go_enter Try.func75, Try.ntmps75
        go_wp2_with fail
        refine HP.out.mono ?_
        rintro e w1 ⟨rfl, b1, t1⟩
        have T1 := hide ((Tw.of_ext (Ext.alloc w (.cells #[.int .i64 d0, .int .i64 s0, .int .i64 r0, .int .i64 f0, .int .i64 i0, .int .i64 k0, .int .i64 l0, .int .i64 t0, .int .i64 lo0, .int .i64 hi0, .int .i64 a0, .int .i64 x0, .int .i64 y0, .int .i64 z0] 30)) g none).trans t1)
        have hgp : w.heap.size ≠ g := by omega
        have P0 := hide (t1.blk PP.out hgp (by simp))
        have B0 := hide b1
        have T0 := hide (Tw.refl w1 g none)
        clear b1 t1 HP PP
        have v1 : IntKind.i64.wrap (qbuf + x) = qbuf + x := by rw [IntKind.wrap_i64]; omega
        have c3 := B0.out.cell 3
        have f3 := B0.out.frozen 3
        have c4 := B0.out.cell 4
        have f4 := B0.out.frozen 4
        have c6 := B0.out.cell 6
        have f6 := B0.out.frozen 6
        have c7 := B0.out.cell 7
        have f7 := B0.out.frozen 7
        have c9 := B0.out.cell 9
        have f9 := B0.out.frozen 9
        have c10 := B0.out.cell 10
        have f10 := B0.out.frozen 10
        have p1 := P0.out.cell 1
        have p2 := P0.out.cell 2
        go_upto_region 3 with (fail)
        refine gen_wpC fun W2 h2 => ?_
        have T2 := hide (show Tw w1 W2 g none from by rw [h2]; (repeat' (first | (with_reducible exact T0.out) | (with_reducible refine Tw.drew ?_) | (with_reducible refine Tw.drewN ?_ _) | (with_reducible refine Tw.trans ?_ (Tw.set_ _ _ _ _ _)))))
        have B2 := hide (show Blk W2 g 102 #[ch, asd, arr, .int .i64 qbeg, st, .int .i64 en, .bool true, .bool false, .int .i64 qat, .int .i64 (qbuf + x), .int .i64 qstl] from by rw [h2]; exact (B0.out.set_ 9 _))
        have P2 := hide (T2.out.blk P0.out hgp (by simp))
        clear h2 c3 f3 c4 f4 c6 f6 c7 f7 c9 f9 c10 f10 p1 p2
        have c3 := B2.out.cell 3
        have f3 := B2.out.frozen 3
        have c4 := B2.out.cell 4
        have f4 := B2.out.frozen 4
        have c6 := B2.out.cell 6
        have f6 := B2.out.frozen 6
        have c7 := B2.out.cell 7
        have f7 := B2.out.frozen 7
        have c9 := B2.out.cell 9
        have f9 := B2.out.frozen 9
        have c10 := B2.out.cell 10
        have f10 := B2.out.frozen 10
        have p1 := P2.out.cell 1
        have p2 := P2.out.cell 2
        clear v1
        go_upto_region 10 with (fail)
        refine gen_wpC fun W3 h3 => ?_
        have T3 := hide (show Tw w1 W3 g none from by rw [h3]; (repeat' (first | (with_reducible exact T2.out) | (with_reducible refine Tw.drew ?_) | (with_reducible refine Tw.drewN ?_ _) | (with_reducible refine Tw.trans ?_ (Tw.set_ _ _ _ _ _)))))
        have B3 := hide (show Blk W3 g 102 #[ch, asd, arr, .int .i64 qbeg, st, .int .i64 en, .bool true, .bool true, .int .i64 qat, .int .i64 (qbuf + x), .int .i64 qstl] from by rw [h3]; exact (B2.out.set_ 7 _))
        have P3 := hide (T3.out.blk P0.out hgp (by simp))
        clear h3 c3 f3 c4 f4 c6 f6 c7 f7 c9 f9 c10 f10 p1 p2
        have c3 := B3.out.cell 3
        have f3 := B3.out.frozen 3
        have c4 := B3.out.cell 4
        have f4 := B3.out.frozen 4
        have c6 := B3.out.cell 6
        have f6 := B3.out.frozen 6
        have c7 := B3.out.cell 7
        have f7 := B3.out.frozen 7
        have c9 := B3.out.cell 9
        have f9 := B3.out.frozen 9
        have c10 := B3.out.cell 10
        have f10 := B3.out.frozen 10
        have p1 := P3.out.cell 1
        have p2 := P3.out.cell 2
        clear c3 f3 c4 f4 c6 f6 c7 f7 c9 f9 c10 f10 p1 p2
        obtain ⟨i9, hi9, hz0, hz1, hz2⟩ := info_parts Try.infoSpan
        have HOk := hide (HO.out.tw (T1.out.trans T3.out) (fun e => by have := (HO.out.lt g e).1; omega) (fun _ _ h => by cases h))
        have HC9 : Hid (ComS g st (qstl) W3) := hide ⟨B3.out.cell 4, B3.out.cell 10⟩
        have hC9 := HC9.out.ext (Ext.drew W3)
        have S1 : Hid (qsts.length + 1 ≤ maxLen) := hide (by unfold maxLen; omega)
        have S2 : Hid ((qsts.length + 1) * 16 ≤ 140737488355328) := hide (by omega)
        have HBW : Hid (B ≤ W3.heap.size) := hide (Nat.le_trans hBw (T1.out.trans T3.out).size)
        refine region_z (S := ComS g st (qstl)) 14 (by kernel_rfl) ?_
        refine AnyZ.take (i := 0) (oi := _) (v := ?_) rfl rfl (by kernel_rfl) (by kernel_rfl) (by kernel_rfl) (by kernel_rfl) (by kernel_rfl) (by kernel_rfl) (fun _ _ _ h => h) (Or.inl ⟨by rfl, ?_⟩) hC9 ?_
        rotate_left
        · intro W hW; obtain ⟨s1, s2⟩ := hW; first | (go_simp; done) | (go_simp; with_reducible rfl)
        simp only [Act.put, List.setIfInBounds_toArray, List.set_cons_zero, List.set_cons_succ]
        refine AnyZ.take (i := 1) (oi := _) (v := ?_) rfl rfl (by kernel_rfl) (by kernel_rfl) (by kernel_rfl) (by kernel_rfl) (by kernel_rfl) (by kernel_rfl) (fun _ _ _ h => h) (Or.inl ⟨by rfl, ?_⟩) hC9 ?_
        rotate_left
        · intro W hW; obtain ⟨s1, s2⟩ := hW; first | (go_simp; done) | (go_simp; with_reducible rfl)
        simp only [Act.put, List.setIfInBounds_toArray, List.set_cons_zero, List.set_cons_succ]
        refine AnyZ.take (i := 2) (oi := _) (v := ?_) rfl rfl (by kernel_rfl) (by kernel_rfl) (by kernel_rfl) (by kernel_rfl) (by kernel_rfl) (by kernel_rfl) (fun _ _ _ h => h) (Or.inl ⟨by rfl, ?_⟩) hC9 ?_
        rotate_left
        · intro W hW; obtain ⟨s1, s2⟩ := hW; first | (go_simp; done) | (go_simp; with_reducible rfl)
        simp only [Act.put, List.setIfInBounds_toArray, List.set_cons_zero, List.set_cons_succ]
        refine AnyZ.take (i := 3) (oi := _) (v := ?_) rfl rfl (by kernel_rfl) (by kernel_rfl) (by kernel_rfl) (by kernel_rfl) (by kernel_rfl) (by kernel_rfl) (fun _ _ _ h => h) (Or.inl ⟨by rfl, ?_⟩) hC9 ?_
        rotate_left
        · intro W hW; obtain ⟨s1, s2⟩ := hW; first | (go_simp; done) | (go_simp; with_reducible rfl)
        simp only [Act.put, List.setIfInBounds_toArray, List.set_cons_zero, List.set_cons_succ]
        refine AnyZ.take (i := 4) (oi := _) (v := ?_) rfl rfl (by kernel_rfl) (by kernel_rfl) (by kernel_rfl) (by kernel_rfl) (by kernel_rfl) (by kernel_rfl) (fun _ _ _ h => h) (Or.inl ⟨by rfl, ?_⟩) hC9 ?_
        rotate_left
        · intro W hW; obtain ⟨s1, s2⟩ := hW; first | (go_simp; done) | (go_simp; with_reducible rfl)
        simp only [Act.put, List.setIfInBounds_toArray, List.set_cons_zero, List.set_cons_succ]
        refine AnyZ.take (i := 5) (oi := _) (v := ?_) rfl rfl (by kernel_rfl) (by kernel_rfl) (by kernel_rfl) (by kernel_rfl) (by kernel_rfl) (by kernel_rfl) (fun _ _ _ h => h) (Or.inl ⟨by rfl, ?_⟩) hC9 ?_
        rotate_left
        · intro W hW; obtain ⟨s1, s2⟩ := hW; first | (go_simp; done) | (go_simp; with_reducible rfl)
        simp only [Act.put, List.setIfInBounds_toArray, List.set_cons_zero, List.set_cons_succ]
        refine AnyZ.take (i := 6) (oi := _) (v := ?_) rfl rfl (by kernel_rfl) (by kernel_rfl) (by kernel_rfl) (by kernel_rfl) (by kernel_rfl) (by kernel_rfl) (fun _ _ _ h => h) (Or.inl ⟨by rfl, ?_⟩) hC9 ?_
        rotate_left
        · intro W hW; obtain ⟨s1, s2⟩ := hW; first | (go_simp; done) | (go_simp; with_reducible rfl)
        simp only [Act.put, List.setIfInBounds_toArray, List.set_cons_zero, List.set_cons_succ]
        refine AnyZ.take (i := 7) (oi := _) (v := ?_) rfl rfl (by kernel_rfl) (by kernel_rfl) (by kernel_rfl) (by kernel_rfl) (by kernel_rfl) (by kernel_rfl) (fun _ _ _ h => h) (Or.inl ⟨by rfl, ?_⟩) hC9 ?_
        rotate_left
        · intro W hW; obtain ⟨s1, s2⟩ := hW; first | (go_simp; done) | (go_simp; with_reducible rfl)
        simp only [Act.put, List.setIfInBounds_toArray, List.set_cons_zero, List.set_cons_succ]
        refine AnyZ.take (i := 8) (oi := _) (v := ?_) rfl rfl (by kernel_rfl) (by kernel_rfl) (by kernel_rfl) (by kernel_rfl) (by kernel_rfl) (by kernel_rfl) (fun _ _ _ h => h) (Or.inl ⟨by rfl, ?_⟩) hC9 ?_
        rotate_left
        · intro W hW; obtain ⟨s1, s2⟩ := hW; first | (go_simp; done) | (go_simp; with_reducible rfl)
        simp only [Act.put, List.setIfInBounds_toArray, List.set_cons_zero, List.set_cons_succ]
        refine AnyZ.take (i := 9) (oi := _) (v := ?_) rfl rfl (by kernel_rfl) (by kernel_rfl) (by kernel_rfl) (by kernel_rfl) (by kernel_rfl) (by kernel_rfl) (fun _ _ _ h => h) (Or.inl ⟨by rfl, ?_⟩) hC9 ?_
        rotate_left
        · intro W hW; obtain ⟨s1, s2⟩ := hW; first | (go_simp; done) | (go_simp; with_reducible rfl)
        simp only [Act.put, List.setIfInBounds_toArray, List.set_cons_zero, List.set_cons_succ]
        refine AnyZ.take (i := 10) (oi := _) (v := ?_) rfl rfl (by kernel_rfl) (by kernel_rfl) (by kernel_rfl) (by kernel_rfl) (by kernel_rfl) (by kernel_rfl) (fun _ _ _ h => h) (Or.inl ⟨by rfl, ?_⟩) hC9 ?_
        rotate_left
        · intro W hW; obtain ⟨s1, s2⟩ := hW; first | (go_simp; done) | (go_simp; with_reducible rfl)
        simp only [Act.put, List.setIfInBounds_toArray, List.set_cons_zero, List.set_cons_succ]
        refine AnyZ.take (i := 11) (oi := _) (v := ?_) rfl rfl (by kernel_rfl) (by kernel_rfl) (by kernel_rfl) (by kernel_rfl) (by kernel_rfl) (by kernel_rfl) (fun _ _ _ h => h) (Or.inl ⟨by rfl, ?_⟩) hC9 ?_
        rotate_left
        · intro W hW; obtain ⟨s1, s2⟩ := hW; first | (go_simp; done) | (go_simp; with_reducible rfl)
        simp only [Act.put, List.setIfInBounds_toArray, List.set_cons_zero, List.set_cons_succ]
        refine AnyZ.step (i := 12) rfl (by kernel_rfl) (fun K hK => ?_)
        go_simp
        refine hK.out _ _ (fun _ => ?_) ?_
        · exact HC9.out.ext (by repeat' (first | (with_reducible exact Below.refl _ _) | (with_reducible assumption) | (with_reducible refine below_drewN ?_ _) | (with_reducible refine Below.drew ?_) | (with_reducible refine ext_alloc ?_ _) | (with_reducible refine Below.setCell ?_ ?_ _) | go_size))
        clear hK K
        refine AnyZ.step (i := 13) rfl (by kernel_rfl) (fun K hK => ?_)
        refine step_append_at rfl _ _ 31 rfl B 81 i9 _ 16 Try.underlying31 hi9 hz0 hz1 hz2 rfl (by omega) len_e2 one_e2 _ _ (by rfl) (HOk.out.ext (by repeat' (first | (with_reducible exact Below.refl _ _) | (with_reducible assumption) | (with_reducible refine below_drewN ?_ _) | (with_reducible refine Below.drew ?_) | (with_reducible refine ext_alloc ?_ _) | (with_reducible refine Below.setCell ?_ ?_ _) | go_size))) (some ⟨W3.heap.size, 0, none⟩) 1 1 [(qstl, qat)] (by simp [Act.eval]) ((At.pair1 W3 (qstl) qat _).ext (by repeat' (first | (with_reducible exact Below.refl _ _) | (with_reducible assumption) | (with_reducible refine below_drewN ?_ _) | (with_reducible refine Below.drew ?_) | (with_reducible refine ext_alloc ?_ _) | (with_reducible refine Below.setCell ?_ ?_ _) | go_size))) S1.out S2.out (Nat.le_trans HBW.out (by simp)) ?_
        intro v7 w7 o7 g7 _ hob
        obtain ⟨A7, c7, hv7, _⟩ := o7.at_ len_e2
        rw [List.length_append] at hv7
        have hv7 : v7 = .slice A7 (qsts.length + 1) c7 := hv7
        subst hv7
        have hno : some g ≠ st.ownBlock := fun e => by have := (HO.out.lt g e.symm).1; omega
        have X7 : Hid (ComS g st (qstl) w7) := hide ⟨g7.cell (HC9.out.ext (by repeat' (first | (with_reducible exact Below.refl _ _) | (with_reducible assumption) | (with_reducible refine below_drewN ?_ _) | (with_reducible refine Below.drew ?_) | (with_reducible refine ext_alloc ?_ _) | (with_reducible refine Below.setCell ?_ ?_ _) | go_size))).1 hno, g7.cell (HC9.out.ext (by repeat' (first | (with_reducible exact Below.refl _ _) | (with_reducible assumption) | (with_reducible refine below_drewN ?_ _) | (with_reducible refine Below.drew ?_) | (with_reducible refine ext_alloc ?_ _) | (with_reducible refine Below.setCell ?_ ?_ _) | go_size))).2 hno⟩
        refine hK.out _ _ (fun _ => X7.out) ?_
        clear hK K
        simp only [Act.put, List.setIfInBounds_toArray, List.set_cons_zero, List.set_cons_succ]
        have B7 := hide ((B3.out.ext (show Ext W3 _ from (by repeat' (first | (with_reducible exact Below.refl _ _) | (with_reducible assumption) | (with_reducible refine below_drewN ?_ _) | (with_reducible refine Below.drew ?_) | (with_reducible refine ext_alloc ?_ _) | (with_reducible refine Below.setCell ?_ ?_ _) | go_size)))).grown g7 hno)
        have T7 := hide (((T1.out.trans T3.out).more st.ownBlock).trans ((Tw.of_ext (show Ext W3 _ from (by repeat' (first | (with_reducible exact Below.refl _ _) | (with_reducible assumption) | (with_reducible refine below_drewN ?_ _) | (with_reducible refine Below.drew ?_) | (with_reducible refine ext_alloc ?_ _) | (with_reducible refine Below.setCell ?_ ?_ _) | go_size))) g st.ownBlock).trans (Tw.of_grown g7)))
        have O7 := hide o7
        have H7 : Hid ((Value.slice A7 (qsts.length + 1) c7).ownBlock = st.ownBlock ∨ ∃ q, (Value.slice A7 (qsts.length + 1) c7).ownBlock = some q ∧ w.heap.size ≤ q) := hide (by
          have hz7 := (T1.out.trans T3.out).size
          rcases hob with hob | hob
          · exact .inl hob
          · exact .inr ⟨_, hob, by simp; omega⟩)
        have c4 := B7.out.cell 4
        have f4 := B7.out.frozen 4
        clear o7 g7 hob hno hC9
        refine AnyZ.step (i := 14) rfl (by kernel_rfl) (fun K hK => ?_)
        go_simp
        refine hK.out _ _ (fun h => ?_) ?_
        · exact absurd (h.symm.trans (show _ = true by kernel_rfl)) (by simp)
        clear hK K
        refine AnyZ.step (i := 15) rfl (by kernel_rfl) (fun K hK => ?_)
        go_simp
        refine hK.out _ _ (fun h => ?_) ?_
        · exact absurd (h.symm.trans (show _ = true by kernel_rfl)) (by simp)
        clear hK K
        refine AnyZ.step (i := 16) rfl (by kernel_rfl) (fun K hK => ?_)
        go_simp
        refine hK.out _ _ (fun h => ?_) ?_
        · exact absurd (h.symm.trans (show _ = true by kernel_rfl)) (by simp)
        clear hK K
        refine AnyZ.step (i := 17) rfl (by kernel_rfl) (fun K hK => ?_)
        go_simp
        refine hK.out _ _ (fun h => ?_) ?_
        · exact absurd (h.symm.trans (show _ = true by kernel_rfl)) (by simp)
        clear hK K
        refine AnyZ.done (by kernel_rfl) ?_ _
        first | refine gen_blo fun W8 h8 => ?_ | refine gen_the fun W8 h8 => ?_ | refine gen_bod fun W8 h8 => ?_
        have B8 := hide (show Blk W8 g 102 #[ch, asd, arr, .int .i64 qbeg, .slice A7 (qsts.length + 1) c7, .int .i64 en, .bool true, .bool true, .int .i64 qat, .int .i64 (qbuf + x), .int .i64 qstl] from by rw [h8]; exact B7.out.set_ 4 _)
        have T8 := hide (show Tw w W8 g st.ownBlock from by rw [h8]; exact T7.out.trans (Tw.set_ _ _ _ _ _))
        have O8 := hide (show Own W8 B 81 2 e2 (.slice A7 (qsts.length + 1) c7) _ from by rw [h8]; exact O7.out.kept (grown_set _ g 4 _) (.inr (fun e => by have := (O7.out.lt g e).1; omega)))
        clear h8 c4 f4
        go_wp2_with fail
        go_end0
        exact ⟨_, rfl, B8.out, O8.out, T8.out, H7.out⟩
    | false =>
      by_cases hq : qbuf + x < s0
      · cases la with
        | false =>
          obtain rfl : v = ⟨qat, qbuf + x, false, false, qstl, qbeg, qsts⟩ := by rw [hv]; simp [hq]
          clear hv
          have j1 : decide (qbuf + x < s0) = true := by simp [hq]
          clear hq
          go_enter Try.func75, Try.ntmps75
          go_wp2_with fail
          refine HP.out.mono ?_
          rintro e w1 ⟨rfl, b1, t1⟩
          have T1 := hide ((Tw.of_ext (Ext.alloc w (.cells #[.int .i64 d0, .int .i64 s0, .int .i64 r0, .int .i64 f0, .int .i64 i0, .int .i64 k0, .int .i64 l0, .int .i64 t0, .int .i64 lo0, .int .i64 hi0, .int .i64 a0, .int .i64 x0, .int .i64 y0, .int .i64 z0] 30)) g none).trans t1)
          have hgp : w.heap.size ≠ g := by omega
          have P0 := hide (t1.blk PP.out hgp (by simp))
          have B0 := hide b1
          have T0 := hide (Tw.refl w1 g none)
          clear b1 t1 HP PP
          have v1 : IntKind.i64.wrap (qbuf + x) = qbuf + x := by rw [IntKind.wrap_i64]; omega
          have c3 := B0.out.cell 3
          have f3 := B0.out.frozen 3
          have c4 := B0.out.cell 4
          have f4 := B0.out.frozen 4
          have c6 := B0.out.cell 6
          have f6 := B0.out.frozen 6
          have c7 := B0.out.cell 7
          have f7 := B0.out.frozen 7
          have c9 := B0.out.cell 9
          have f9 := B0.out.frozen 9
          have c10 := B0.out.cell 10
          have f10 := B0.out.frozen 10
          have p1 := P0.out.cell 1
          have p2 := P0.out.cell 2
          go_upto_region 3 with (fail)
          refine gen_wpC fun W2 h2 => ?_
          have T2 := hide (show Tw w1 W2 g none from by rw [h2]; (repeat' (first | (with_reducible exact T0.out) | (with_reducible refine Tw.drew ?_) | (with_reducible refine Tw.drewN ?_ _) | (with_reducible refine Tw.trans ?_ (Tw.set_ _ _ _ _ _)))))
          have B2 := hide (show Blk W2 g 102 #[ch, asd, arr, .int .i64 qbeg, st, .int .i64 en, .bool false, .bool false, .int .i64 qat, .int .i64 (qbuf + x), .int .i64 qstl] from by rw [h2]; exact (B0.out.set_ 9 _))
          have P2 := hide (T2.out.blk P0.out hgp (by simp))
          clear h2 c3 f3 c4 f4 c6 f6 c7 f7 c9 f9 c10 f10 p1 p2
          have c3 := B2.out.cell 3
          have f3 := B2.out.frozen 3
          have c4 := B2.out.cell 4
          have f4 := B2.out.frozen 4
          have c6 := B2.out.cell 6
          have f6 := B2.out.frozen 6
          have c7 := B2.out.cell 7
          have f7 := B2.out.frozen 7
          have c9 := B2.out.cell 9
          have f9 := B2.out.frozen 9
          have c10 := B2.out.cell 10
          have f10 := B2.out.frozen 10
          have p1 := P2.out.cell 1
          have p2 := P2.out.cell 2
          clear v1
          go_wp2_with fail
          refine gen_bod fun W9 h9 => ?_
          have T9 := hide (show Tw w1 W9 g none from by rw [h9]; (repeat' (first | (with_reducible exact T2.out) | (with_reducible refine Tw.drew ?_) | (with_reducible refine Tw.drewN ?_ _) | (with_reducible refine Tw.trans ?_ (Tw.set_ _ _ _ _ _)))))
          have B9 := hide (show Blk W9 g 102 #[ch, asd, arr, .int .i64 qbeg, st, .int .i64 en, .bool false, .bool false, .int .i64 qat, .int .i64 (qbuf + x), .int .i64 qstl] from by rw [h9]; exact B2.out)
          clear h9
          go_end0
          exact ⟨st, rfl, B9.out, (HO.out.tw (T1.out.trans T9.out) (fun e => by have := (HO.out.lt g e).1; omega) (fun _ _ h => by cases h)), (T1.out.trans T9.out).more _, .inl rfl⟩
        | true =>
          obtain rfl : v = ⟨qat, qbuf + x, true, true, qstl, qat, qsts⟩ := by rw [hv]; simp [hq]
          clear hv
          have j1 : decide (qbuf + x < s0) = true := by simp [hq]
          clear hq
          go_enter Try.func75, Try.ntmps75
          go_wp2_with fail
          refine HP.out.mono ?_
          rintro e w1 ⟨rfl, b1, t1⟩
          have T1 := hide ((Tw.of_ext (Ext.alloc w (.cells #[.int .i64 d0, .int .i64 s0, .int .i64 r0, .int .i64 f0, .int .i64 i0, .int .i64 k0, .int .i64 l0, .int .i64 t0, .int .i64 lo0, .int .i64 hi0, .int .i64 a0, .int .i64 x0, .int .i64 y0, .int .i64 z0] 30)) g none).trans t1)
          have hgp : w.heap.size ≠ g := by omega
          have P0 := hide (t1.blk PP.out hgp (by simp))
          have B0 := hide b1
          have T0 := hide (Tw.refl w1 g none)
          clear b1 t1 HP PP
          have v1 : IntKind.i64.wrap (qbuf + x) = qbuf + x := by rw [IntKind.wrap_i64]; omega
          have c3 := B0.out.cell 3
          have f3 := B0.out.frozen 3
          have c4 := B0.out.cell 4
          have f4 := B0.out.frozen 4
          have c6 := B0.out.cell 6
          have f6 := B0.out.frozen 6
          have c7 := B0.out.cell 7
          have f7 := B0.out.frozen 7
          have c9 := B0.out.cell 9
          have f9 := B0.out.frozen 9
          have c10 := B0.out.cell 10
          have f10 := B0.out.frozen 10
          have p1 := P0.out.cell 1
          have p2 := P0.out.cell 2
          go_upto_region 3 with (fail)
          refine gen_wpC fun W2 h2 => ?_
          have T2 := hide (show Tw w1 W2 g none from by rw [h2]; (repeat' (first | (with_reducible exact T0.out) | (with_reducible refine Tw.drew ?_) | (with_reducible refine Tw.drewN ?_ _) | (with_reducible refine Tw.trans ?_ (Tw.set_ _ _ _ _ _)))))
          have B2 := hide (show Blk W2 g 102 #[ch, asd, arr, .int .i64 qbeg, st, .int .i64 en, .bool false, .bool false, .int .i64 qat, .int .i64 (qbuf + x), .int .i64 qstl] from by rw [h2]; exact (B0.out.set_ 9 _))
          have P2 := hide (T2.out.blk P0.out hgp (by simp))
          clear h2 c3 f3 c4 f4 c6 f6 c7 f7 c9 f9 c10 f10 p1 p2
          have c3 := B2.out.cell 3
          have f3 := B2.out.frozen 3
          have c4 := B2.out.cell 4
          have f4 := B2.out.frozen 4
          have c6 := B2.out.cell 6
          have f6 := B2.out.frozen 6
          have c7 := B2.out.cell 7
          have f7 := B2.out.frozen 7
          have c9 := B2.out.cell 9
          have f9 := B2.out.frozen 9
          have c10 := B2.out.cell 10
          have f10 := B2.out.frozen 10
          have p1 := P2.out.cell 1
          have p2 := P2.out.cell 2
          clear v1
          go_wp2_with fail
          refine gen_bod fun W9 h9 => ?_
          have T9 := hide (show Tw w1 W9 g none from by rw [h9]; (repeat' (first | (with_reducible exact T2.out) | (with_reducible refine Tw.drew ?_) | (with_reducible refine Tw.drewN ?_ _) | (with_reducible refine Tw.trans ?_ (Tw.set_ _ _ _ _ _)))))
          have B9 := hide (show Blk W9 g 102 #[ch, asd, arr, .int .i64 qat, st, .int .i64 en, .bool true, .bool true, .int .i64 qat, .int .i64 (qbuf + x), .int .i64 qstl] from by rw [h9]; exact (((B2.out.set_ 7 _).set_ 6 _).set_ 3 _))
          clear h9
          go_end0
          exact ⟨st, rfl, B9.out, (HO.out.tw (T1.out.trans T9.out) (fun e => by have := (HO.out.lt g e).1; omega) (fun _ _ h => by cases h)), (T1.out.trans T9.out).more _, .inl rfl⟩
      · skip
        obtain rfl : v = ⟨qat, qbuf + x, true, true, qstl, qat, qsts⟩ := by rw [hv]; simp [hq]
        clear hv
        have j1 : decide (qbuf + x < s0) = false := by simp [hq]
        clear hq
        go_enter Try.func75, Try.ntmps75
        go_wp2_with fail
        refine HP.out.mono ?_
        rintro e w1 ⟨rfl, b1, t1⟩
        have T1 := hide ((Tw.of_ext (Ext.alloc w (.cells #[.int .i64 d0, .int .i64 s0, .int .i64 r0, .int .i64 f0, .int .i64 i0, .int .i64 k0, .int .i64 l0, .int .i64 t0, .int .i64 lo0, .int .i64 hi0, .int .i64 a0, .int .i64 x0, .int .i64 y0, .int .i64 z0] 30)) g none).trans t1)
        have hgp : w.heap.size ≠ g := by omega
        have P0 := hide (t1.blk PP.out hgp (by simp))
        have B0 := hide b1
        have T0 := hide (Tw.refl w1 g none)
        clear b1 t1 HP PP
        have v1 : IntKind.i64.wrap (qbuf + x) = qbuf + x := by rw [IntKind.wrap_i64]; omega
        have c3 := B0.out.cell 3
        have f3 := B0.out.frozen 3
        have c4 := B0.out.cell 4
        have f4 := B0.out.frozen 4
        have c6 := B0.out.cell 6
        have f6 := B0.out.frozen 6
        have c7 := B0.out.cell 7
        have f7 := B0.out.frozen 7
        have c9 := B0.out.cell 9
        have f9 := B0.out.frozen 9
        have c10 := B0.out.cell 10
        have f10 := B0.out.frozen 10
        have p1 := P0.out.cell 1
        have p2 := P0.out.cell 2
        go_upto_region 3 with (fail)
        refine gen_wpC fun W2 h2 => ?_
        have T2 := hide (show Tw w1 W2 g none from by rw [h2]; (repeat' (first | (with_reducible exact T0.out) | (with_reducible refine Tw.drew ?_) | (with_reducible refine Tw.drewN ?_ _) | (with_reducible refine Tw.trans ?_ (Tw.set_ _ _ _ _ _)))))
        have B2 := hide (show Blk W2 g 102 #[ch, asd, arr, .int .i64 qbeg, st, .int .i64 en, .bool false, .bool false, .int .i64 qat, .int .i64 (qbuf + x), .int .i64 qstl] from by rw [h2]; exact (B0.out.set_ 9 _))
        have P2 := hide (T2.out.blk P0.out hgp (by simp))
        clear h2 c3 f3 c4 f4 c6 f6 c7 f7 c9 f9 c10 f10 p1 p2
        have c3 := B2.out.cell 3
        have f3 := B2.out.frozen 3
        have c4 := B2.out.cell 4
        have f4 := B2.out.frozen 4
        have c6 := B2.out.cell 6
        have f6 := B2.out.frozen 6
        have c7 := B2.out.cell 7
        have f7 := B2.out.frozen 7
        have c9 := B2.out.cell 9
        have f9 := B2.out.frozen 9
        have c10 := B2.out.cell 10
        have f10 := B2.out.frozen 10
        have p1 := P2.out.cell 1
        have p2 := P2.out.cell 2
        clear v1
        go_wp2_with fail
        refine gen_bod fun W9 h9 => ?_
        have T9 := hide (show Tw w1 W9 g none from by rw [h9]; (repeat' (first | (with_reducible exact T2.out) | (with_reducible refine Tw.drew ?_) | (with_reducible refine Tw.drewN ?_ _) | (with_reducible refine Tw.trans ?_ (Tw.set_ _ _ _ _ _)))))
        have B9 := hide (show Blk W9 g 102 #[ch, asd, arr, .int .i64 qat, st, .int .i64 en, .bool true, .bool true, .int .i64 qat, .int .i64 (qbuf + x), .int .i64 qstl] from by rw [h9]; exact (((B2.out.set_ 7 _).set_ 6 _).set_ 3 _))
        clear h9
        go_end0
        exact ⟨st, rfl, B9.out, (HO.out.tw (T1.out.trans T9.out) (fun e => by have := (HO.out.lt g e).1; omega) (fun _ _ h => by cases h)), (T1.out.trans T9.out).more _, .inl rfl⟩
end
end Go.Proofs.Ytjbgkoeojfmkkaa
