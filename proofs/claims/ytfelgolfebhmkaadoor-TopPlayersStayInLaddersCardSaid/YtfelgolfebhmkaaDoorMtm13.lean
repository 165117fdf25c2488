/- Walk: came of the program's watcher. Conditions as stated. -/
import Derived.Test.YtfelgolfebhmkaaDoorMtm12
import Derived.Test.YtfelgolfebhmkaaDoorMtm02
import Derived.Deep.DeepCutAuto
open List (setIfInBounds_toArray set_cons_zero set_cons_succ)
namespace Go.Proofs.YtfelgolfebhmkaaDoor
open Go.RowKit
theorem Tryd.info91 : (Tryd.prog.info? 91).map (fun i => (i.zero, i.size, i.bytes)) = some (some (.agg #[.int .i64 0, .int .i64 0]), 2, 16) := by kernel_rfl
def CamS (g : Nat) (st : Value) (stl : Int) (W : World) : Prop := W.cell? ⟨g, 21, none⟩ = some st ∧ W.cell? ⟨g, 28, none⟩ = some (.int .i64 stl)
theorem CamS.ext {g : Nat} {st : Value} {stl : Int} {w w' : World} (h : CamS g st stl w) (he : Ext w w') : CamS g st stl w' := ⟨he.cell h.1, he.cell h.2⟩
section
variable {lA : Option Addr} {ln lc : Nat} {sA : Option Addr} {sn sc : Nat} {qA : Option Addr} {qn qc : Nat} {d0 s0 r0 f0 i0 k0 l0 t0 lo0 hi0 a0 x0 y0 z0 : Int} {ch asd arr st ld : Value} {beg en at_ buf stl : Int} {pl bg : Bool} {g B : Nat} {L : List Int} {w : World}
def CamGives (w : World) (g B : Nat) (lA : Option Addr) (ln lc : Nat) (sA : Option Addr) (sn sc : Nat) (qA : Option Addr) (qn qc : Nat) (d0 s0 r0 f0 i0 k0 l0 t0 lo0 hi0 a0 x0 y0 z0 : Int) (ch asd arr st ld : Value) (en : Int) (x : WaT) (e : Ending) (w' : World) : Prop :=
  ∃ st' : Value, e = .returned (.tuple #[]) ∧ Blk w' g 77 #[.slice lA ln lc, .slice sA sn sc, .slice qA qn qc, .int .i64 d0, .int .i64 s0, .int .i64 r0, .int .i64 f0, .int .i64 i0, .int .i64 k0, .int .i64 l0, .int .i64 t0, .int .i64 lo0, .int .i64 hi0, .int .i64 a0, .int .i64 x0, .int .i64 y0, .int .i64 z0, ch, asd, arr, .int .i64 x.beg, st', .int .i64 en, ld, .int .i64 x.at_, .int .i64 x.buf, .bool x.plays, .bool x.begun, .int .i64 x.stalled] ∧
    Own w' B 91 2 e2 st' x.stalls ∧ Tw w w' g st.ownBlock ∧ (st'.ownBlock = st.ownBlock ∨ ∃ b, st'.ownBlock = some b ∧ w.heap.size ≤ b)
set_option linter.unusedSimpArgs false in
set_option linter.unusedVariables false in
set_option maxRecDepth 100000 in
set_option maxHeartbeats 8000000 in
theorem came_c1 (h : Blk w g 77 #[.slice lA ln lc, .slice sA sn sc, .slice qA qn qc, .int .i64 d0, .int .i64 s0, .int .i64 r0, .int .i64 f0, .int .i64 i0, .int .i64 k0, .int .i64 l0, .int .i64 t0, .int .i64 lo0, .int .i64 hi0, .int .i64 a0, .int .i64 x0, .int .i64 y0, .int .i64 z0, ch, asd, arr, .int .i64 beg, st, .int .i64 en, ld, .int .i64 at_, .int .i64 buf, .bool true, .bool bg, .int .i64 stl]) (hL : At w 1 e64 lA ln lc L) {n : Nat} (hn : n < ln) (ha : 0 ≤ at_ ∧ at_ ≤ 1000000000000000000) (hb : 0 ≤ buf ∧ buf ≤ 1000000000000) (hx : 0 ≤ L.getD n 0 ∧ L.getD n 0 ≤ 1000000000) {t : Int} (ht : at_ ≤ t ∧ t ≤ 1000000000000000000) {sts : List (Int × Int)} (hLg : ∀ a, lA = some a → a.block < g) (hO : Own w B 91 2 e2 st sts) (hB : g < B) (hBw : B ≤ w.heap.size) (hsl : sts.length ≤ 1000) (hc : t ≤ at_ + buf) :
    Calls Tryd.prog 31 #[.pointer (some ⟨g, 0, none⟩), .int .i64 (n : Int), .int .i64 t] w (CamGives w g B lA ln lc sA sn sc qA qn qc d0 s0 r0 f0 i0 k0 l0 t0 lo0 hi0 a0 x0 y0 z0 ch asd arr st ld en (camT s0 r0 (L.getD n 0) t (decide (n + 1 = L.length)) ⟨at_, buf, true, bg, stl, beg, sts⟩)) := by
  have HL := hide hL
  have HLN := hide hL.len
  have hbn := hL.bound
  have HO := hide hO
  obtain ⟨b, off, rfl, _⟩ := hL.addr (by omega)
  have H := hide h
  have c0 := h.cell 0
  have c4 := h.cell 4
  have c5 := h.cell 5
  have c20 := h.cell 20
  have c21 := h.cell 21
  have c24 := h.cell 24
  have c25 := h.cell 25
  have c26 := h.cell 26
  have c27 := h.cell 27
  have c28 := h.cell 28
  have f20 := h.frozen 20
  have f24 := h.frozen 24
  have f25 := h.frozen 25
  have f26 := h.frozen 26
  have f27 := h.frozen 27
  have f28 := h.frozen 28
  have HE := hide (fun (W : World) (hW : Tw w W g none) => (hL.tw hW (fun a ha => ⟨by have := hLg a ha; omega, by simp⟩)).num hn)
  clear h hL hO hLg
  obtain ⟨ha1, ha2⟩ := ha
  obtain ⟨hb1, hb2⟩ := hb
  obtain ⟨hx1, hx2⟩ := hx
  obtain ⟨ht1, ht2⟩ := ht
  generalize L.getD n 0 = x at *
  have j0 : (0 : Int) ≤ (n : Int) := by omega
  have j1 : (n : Int) < (ln : Int) := by omega
  have hlast : Hid (decide (n + 1 = L.length) = decide (n + 1 = ln)) := hide (by rw [HLN.out])
  have hv : camT s0 r0 x t (decide (n + 1 = L.length)) ⟨at_, buf, true, bg, stl, beg, sts⟩ = ⟨t, buf - (t - at_) + x, true, bg, stl, beg, sts⟩ := by
    unfold camT passT
    rw [if_neg (by simp only; omega)]
    unfold landT drainT
    simp
  rw [hv]
  clear hv
  have g1 : ¬ at_ + buf < t := by omega
  have T0 := hide (Tw.refl w g none)
  have B0 := H
  go_enter Tryd.func31, Tryd.ntmps31
  go_wp2_with fail
  go_quiet (fail)
  go_wp2_with fail
  refine gen_wpC fun W1 h1 => ?_
  have T1 := hide (show Tw w W1 g none from by rw [h1]; (repeat' (first | (with_reducible exact T0.out) | (with_reducible refine Tw.drew ?_) | (with_reducible refine Tw.drewN ?_ _) | (with_reducible refine Tw.trans ?_ (Tw.set_ _ _ _ _ _)))))
  have B1 := hide (show Blk W1 g 77 #[.slice (some ⟨b, off, none⟩) ln lc, .slice sA sn sc, .slice qA qn qc, .int .i64 d0, .int .i64 s0, .int .i64 r0, .int .i64 f0, .int .i64 i0, .int .i64 k0, .int .i64 l0, .int .i64 t0, .int .i64 lo0, .int .i64 hi0, .int .i64 a0, .int .i64 x0, .int .i64 y0, .int .i64 z0, ch, asd, arr, .int .i64 beg, st, .int .i64 en, ld, .int .i64 at_, .int .i64 buf, .bool true, .bool bg, .int .i64 stl] from by rw [h1]; exact B0.out)
  clear h1 c0 c4 c5 c20 c21 c24 c25 c26 c27 c28 f20 f24 f25 f26 f27 f28
  have c0 := B1.out.cell 0
  have c4 := B1.out.cell 4
  have c5 := B1.out.cell 5
  have c20 := B1.out.cell 20
  have c21 := B1.out.cell 21
  have c24 := B1.out.cell 24
  have c25 := B1.out.cell 25
  have c26 := B1.out.cell 26
  have c27 := B1.out.cell 27
  have c28 := B1.out.cell 28
  have f20' := B1.out.frozen 20
  have f21' := B1.out.frozen 21
  have f24' := B1.out.frozen 24
  have f25' := B1.out.frozen 25
  have f26' := B1.out.frozen 26
  have f27' := B1.out.frozen 27
  have f28' := B1.out.frozen 28
  have v1 : IntKind.i64.wrap (t - at_) = t - at_ := by rw [IntKind.wrap_i64]; omega
  have v2 : IntKind.i64.wrap (buf - (t - at_)) = buf - (t - at_) := by rw [IntKind.wrap_i64]; omega
  go_region
  go_upto_region 7 with (fail)
  refine gen_wpC fun W2 h2 => ?_
  have T2 := hide (show Tw w W2 g none from by rw [h2]; (repeat' (first | (with_reducible exact T1.out) | (with_reducible refine Tw.drew ?_) | (with_reducible refine Tw.drewN ?_ _) | (with_reducible refine Tw.trans ?_ (Tw.set_ _ _ _ _ _)))))
  have B2 := hide (show Blk W2 g 77 #[.slice (some ⟨b, off, none⟩) ln lc, .slice sA sn sc, .slice qA qn qc, .int .i64 d0, .int .i64 s0, .int .i64 r0, .int .i64 f0, .int .i64 i0, .int .i64 k0, .int .i64 l0, .int .i64 t0, .int .i64 lo0, .int .i64 hi0, .int .i64 a0, .int .i64 x0, .int .i64 y0, .int .i64 z0, ch, asd, arr, .int .i64 beg, st, .int .i64 en, ld, .int .i64 t, .int .i64 (buf - (t - at_)), .bool true, .bool bg, .int .i64 stl] from by rw [h2]; exact ((B1.out.set_ 25 _).set_ 24 _))
  clear h2 c0 c4 c5 c20 c21 c24 c25 c26 c27 c28 f20' f21' f24' f25' f26' f27' f28'
  have c0 := B2.out.cell 0
  have c4 := B2.out.cell 4
  have c5 := B2.out.cell 5
  have c20 := B2.out.cell 20
  have c21 := B2.out.cell 21
  have c24 := B2.out.cell 24
  have c25 := B2.out.cell 25
  have c26 := B2.out.cell 26
  have c27 := B2.out.cell 27
  have c28 := B2.out.cell 28
  have f20' := B2.out.frozen 20
  have f21' := B2.out.frozen 21
  have f24' := B2.out.frozen 24
  have f25' := B2.out.frozen 25
  have f26' := B2.out.frozen 26
  have f27' := B2.out.frozen 27
  have f28' := B2.out.frozen 28
  have e0 := HE.out W2 T2.out
  clear v1 v2
  have v3 : IntKind.i64.wrap (buf - (t - at_) + x) = buf - (t - at_) + x := by rw [IntKind.wrap_i64]; omega
  go_region
  go_upto_region 8 with (fail)
  refine gen_wpC fun W3 h3 => ?_
  have T3 := hide (show Tw w W3 g none from by rw [h3]; (repeat' (first | (with_reducible exact T2.out) | (with_reducible refine Tw.drew ?_) | (with_reducible refine Tw.drewN ?_ _) | (with_reducible refine Tw.trans ?_ (Tw.set_ _ _ _ _ _)))))
  have B3 := hide (show Blk W3 g 77 #[.slice (some ⟨b, off, none⟩) ln lc, .slice sA sn sc, .slice qA qn qc, .int .i64 d0, .int .i64 s0, .int .i64 r0, .int .i64 f0, .int .i64 i0, .int .i64 k0, .int .i64 l0, .int .i64 t0, .int .i64 lo0, .int .i64 hi0, .int .i64 a0, .int .i64 x0, .int .i64 y0, .int .i64 z0, ch, asd, arr, .int .i64 beg, st, .int .i64 en, ld, .int .i64 t, .int .i64 (buf - (t - at_) + x), .bool true, .bool bg, .int .i64 stl] from by rw [h3]; exact (B2.out.set_ 25 _))
  clear h3 c0 c4 c5 c20 c21 c24 c25 c26 c27 c28 f20' f21' f24' f25' f26' f27' f28' e0
  have c0 := B3.out.cell 0
  have c4 := B3.out.cell 4
  have c5 := B3.out.cell 5
  have c20 := B3.out.cell 20
  have c21 := B3.out.cell 21
  have c24 := B3.out.cell 24
  have c25 := B3.out.cell 25
  have c26 := B3.out.cell 26
  have c27 := B3.out.cell 27
  have c28 := B3.out.cell 28
  have f20' := B3.out.frozen 20
  have f21' := B3.out.frozen 21
  have f24' := B3.out.frozen 24
  have f25' := B3.out.frozen 25
  have f26' := B3.out.frozen 26
  have f27' := B3.out.frozen 27
  have f28' := B3.out.frozen 28
  clear v3
  go_wp2_with fail
  go_end0
  exact ⟨st, rfl, B3.out, HO.out.tw T3.out (fun e => by have := (HO.out.lt g e).1; omega) (fun _ _ h => by cases h), T3.out.more _, .inl rfl⟩
set_option linter.unusedSimpArgs false in
set_option linter.unusedVariables false in
set_option maxRecDepth 100000 in
set_option maxHeartbeats 8000000 in
theorem came_c2 (h : Blk w g 77 #[.slice lA ln lc, .slice sA sn sc, .slice qA qn qc, .int .i64 d0, .int .i64 s0, .int .i64 r0, .int .i64 f0, .int .i64 i0, .int .i64 k0, .int .i64 l0, .int .i64 t0, .int .i64 lo0, .int .i64 hi0, .int .i64 a0, .int .i64 x0, .int .i64 y0, .int .i64 z0, ch, asd, arr, .int .i64 beg, st, .int .i64 en, ld, .int .i64 at_, .int .i64 buf, .bool true, .bool true, .int .i64 stl]) (hL : At w 1 e64 lA ln lc L) {n : Nat} (hn : n < ln) (ha : 0 ≤ at_ ∧ at_ ≤ 1000000000000000000) (hb : 0 ≤ buf ∧ buf ≤ 1000000000000) (hx : 0 ≤ L.getD n 0 ∧ L.getD n 0 ≤ 1000000000) {t : Int} (ht : at_ ≤ t ∧ t ≤ 1000000000000000000) {sts : List (Int × Int)} (hLg : ∀ a, lA = some a → a.block < g) (hO : Own w B 91 2 e2 st sts) (hB : g < B) (hBw : B ≤ w.heap.size) (hsl : sts.length ≤ 1000) (hc : at_ + buf < t) :
    Calls Tryd.prog 31 #[.pointer (some ⟨g, 0, none⟩), .int .i64 (n : Int), .int .i64 t] w (CamGives w g B lA ln lc sA sn sc qA qn qc d0 s0 r0 f0 i0 k0 l0 t0 lo0 hi0 a0 x0 y0 z0 ch asd arr st ld en (camT s0 r0 (L.getD n 0) t (decide (n + 1 = L.length)) ⟨at_, buf, true, true, stl, beg, sts⟩)) := by
  have HL := hide hL
  have HLN := hide hL.len
  have hbn := hL.bound
  have HO := hide hO
  obtain ⟨b, off, rfl, _⟩ := hL.addr (by omega)
  have H := hide h
  have c0 := h.cell 0
  have c4 := h.cell 4
  have c5 := h.cell 5
  have c20 := h.cell 20
  have c21 := h.cell 21
  have c24 := h.cell 24
  have c25 := h.cell 25
  have c26 := h.cell 26
  have c27 := h.cell 27
  have c28 := h.cell 28
  have f20 := h.frozen 20
  have f24 := h.frozen 24
  have f25 := h.frozen 25
  have f26 := h.frozen 26
  have f27 := h.frozen 27
  have f28 := h.frozen 28
  have HE := hide (fun (W : World) (hW : Tw w W g none) => (hL.tw hW (fun a ha => ⟨by have := hLg a ha; omega, by simp⟩)).num hn)
  clear h hL hO hLg
  obtain ⟨ha1, ha2⟩ := ha
  obtain ⟨hb1, hb2⟩ := hb
  obtain ⟨hx1, hx2⟩ := hx
  obtain ⟨ht1, ht2⟩ := ht
  generalize L.getD n 0 = x at *
  have j0 : (0 : Int) ≤ (n : Int) := by omega
  have j1 : (n : Int) < (ln : Int) := by omega
  have hlast : Hid (decide (n + 1 = L.length) = decide (n + 1 = ln)) := hide (by rw [HLN.out])
  have HVY : Hid (r0 ≤ (x) ∨ decide (n + 1 = L.length) = true → camT s0 r0 x t (decide (n + 1 = L.length)) ⟨at_, buf, true, true, stl, beg, sts⟩ = ⟨t, x, true, true, at_ + buf, beg, sts ++ [(at_ + buf, t)]⟩) := hide (fun hq => by
    generalize decide (n + 1 = L.length) = la at *
    unfold camT landT drainT passT
    cases la <;> grind)
  have HVN : Hid (¬ r0 ≤ (x) → decide (n + 1 = L.length) = false → camT s0 r0 x t (decide (n + 1 = L.length)) ⟨at_, buf, true, true, stl, beg, sts⟩ = ⟨t, x, false, true, at_ + buf, beg, sts⟩) := hide (fun hq1 hq2 => by
    rw [hq2]
    unfold camT landT drainT passT
    grind)
  by_cases q1 : r0 ≤ x
  · have hv := HVY.out (.inl q1)
    rw [hv]
    clear hv HVY HVN
    have T0 := hide (Tw.refl w g none)
    have B0 := H
    go_enter Tryd.func31, Tryd.ntmps31
    go_wp2_with fail
    go_quiet (fail)
    go_wp2_with fail
    refine gen_wpC fun W1 h1 => ?_
    have T1 := hide (show Tw w W1 g none from by rw [h1]; (repeat' (first | (with_reducible exact T0.out) | (with_reducible refine Tw.drew ?_) | (with_reducible refine Tw.drewN ?_ _) | (with_reducible refine Tw.trans ?_ (Tw.set_ _ _ _ _ _)))))
    have B1 := hide (show Blk W1 g 77 #[.slice (some ⟨b, off, none⟩) ln lc, .slice sA sn sc, .slice qA qn qc, .int .i64 d0, .int .i64 s0, .int .i64 r0, .int .i64 f0, .int .i64 i0, .int .i64 k0, .int .i64 l0, .int .i64 t0, .int .i64 lo0, .int .i64 hi0, .int .i64 a0, .int .i64 x0, .int .i64 y0, .int .i64 z0, ch, asd, arr, .int .i64 beg, st, .int .i64 en, ld, .int .i64 at_, .int .i64 buf, .bool true, .bool true, .int .i64 stl] from by rw [h1]; exact B0.out)
    clear h1 c0 c4 c5 c20 c21 c24 c25 c26 c27 c28 f20 f24 f25 f26 f27 f28
    have c0 := B1.out.cell 0
    have c4 := B1.out.cell 4
    have c5 := B1.out.cell 5
    have c20 := B1.out.cell 20
    have c21 := B1.out.cell 21
    have c24 := B1.out.cell 24
    have c25 := B1.out.cell 25
    have c26 := B1.out.cell 26
    have c27 := B1.out.cell 27
    have c28 := B1.out.cell 28
    have f20' := B1.out.frozen 20
    have f21' := B1.out.frozen 21
    have f24' := B1.out.frozen 24
    have f25' := B1.out.frozen 25
    have f26' := B1.out.frozen 26
    have f27' := B1.out.frozen 27
    have f28' := B1.out.frozen 28
    have v1 : IntKind.i64.wrap (at_ + buf) = at_ + buf := by rw [IntKind.wrap_i64]; omega
    go_region
    go_upto_region 4 with (fail)
    refine gen_wpC fun W2 h2 => ?_
    have T2 := hide (show Tw w W2 g none from by rw [h2]; (repeat' (first | (with_reducible exact T1.out) | (with_reducible refine Tw.drew ?_) | (with_reducible refine Tw.drewN ?_ _) | (with_reducible refine Tw.trans ?_ (Tw.set_ _ _ _ _ _)))))
    have B2 := hide (show Blk W2 g 77 #[.slice (some ⟨b, off, none⟩) ln lc, .slice sA sn sc, .slice qA qn qc, .int .i64 d0, .int .i64 s0, .int .i64 r0, .int .i64 f0, .int .i64 i0, .int .i64 k0, .int .i64 l0, .int .i64 t0, .int .i64 lo0, .int .i64 hi0, .int .i64 a0, .int .i64 x0, .int .i64 y0, .int .i64 z0, ch, asd, arr, .int .i64 beg, st, .int .i64 en, ld, .int .i64 at_, .int .i64 buf, .bool false, .bool true, .int .i64 (at_ + buf)] from by rw [h2]; exact ((B1.out.set_ 26 _).set_ 28 _))
    clear h2 c0 c4 c5 c20 c21 c24 c25 c26 c27 c28 f20' f21' f24' f25' f26' f27' f28'
    have c0 := B2.out.cell 0
    have c4 := B2.out.cell 4
    have c5 := B2.out.cell 5
    have c20 := B2.out.cell 20
    have c21 := B2.out.cell 21
    have c24 := B2.out.cell 24
    have c25 := B2.out.cell 25
    have c26 := B2.out.cell 26
    have c27 := B2.out.cell 27
    have c28 := B2.out.cell 28
    have f20' := B2.out.frozen 20
    have f21' := B2.out.frozen 21
    have f24' := B2.out.frozen 24
    have f25' := B2.out.frozen 25
    have f26' := B2.out.frozen 26
    have f27' := B2.out.frozen 27
    have f28' := B2.out.frozen 28
    clear v1
    have v2 : decide (at_ ≤ at_ + buf) = true := by simp; omega
    go_quiet (fail)
    go_upto_region 7 with (fail)
    refine gen_wpC fun W3 h3 => ?_
    have T3 := hide (show Tw w W3 g none from by rw [h3]; (repeat' (first | (with_reducible exact T2.out) | (with_reducible refine Tw.drew ?_) | (with_reducible refine Tw.drewN ?_ _) | (with_reducible refine Tw.trans ?_ (Tw.set_ _ _ _ _ _)))))
    have B3 := hide (show Blk W3 g 77 #[.slice (some ⟨b, off, none⟩) ln lc, .slice sA sn sc, .slice qA qn qc, .int .i64 d0, .int .i64 s0, .int .i64 r0, .int .i64 f0, .int .i64 i0, .int .i64 k0, .int .i64 l0, .int .i64 t0, .int .i64 lo0, .int .i64 hi0, .int .i64 a0, .int .i64 x0, .int .i64 y0, .int .i64 z0, ch, asd, arr, .int .i64 beg, st, .int .i64 en, ld, .int .i64 t, .int .i64 0, .bool false, .bool true, .int .i64 (at_ + buf)] from by rw [h3]; exact ((B2.out.set_ 25 _).set_ 24 _))
    clear h3 c0 c4 c5 c20 c21 c24 c25 c26 c27 c28 f20' f21' f24' f25' f26' f27' f28'
    have c0 := B3.out.cell 0
    have c4 := B3.out.cell 4
    have c5 := B3.out.cell 5
    have c20 := B3.out.cell 20
    have c21 := B3.out.cell 21
    have c24 := B3.out.cell 24
    have c25 := B3.out.cell 25
    have c26 := B3.out.cell 26
    have c27 := B3.out.cell 27
    have c28 := B3.out.cell 28
    have f20' := B3.out.frozen 20
    have f21' := B3.out.frozen 21
    have f24' := B3.out.frozen 24
    have f25' := B3.out.frozen 25
    have f26' := B3.out.frozen 26
    have f27' := B3.out.frozen 27
    have f28' := B3.out.frozen 28
    have e0 := HE.out W3 T3.out
    clear v2
    have v3 : IntKind.i64.wrap x = x := by rw [IntKind.wrap_i64]; omega
    go_region
    go_upto_region 8 with (fail)
    refine gen_wpC fun W4 h4 => ?_
    have T4 := hide (show Tw w W4 g none from by rw [h4]; (repeat' (first | (with_reducible exact T3.out) | (with_reducible refine Tw.drew ?_) | (with_reducible refine Tw.drewN ?_ _) | (with_reducible refine Tw.trans ?_ (Tw.set_ _ _ _ _ _)))))
    have B4 := hide (show Blk W4 g 77 #[.slice (some ⟨b, off, none⟩) ln lc, .slice sA sn sc, .slice qA qn qc, .int .i64 d0, .int .i64 s0, .int .i64 r0, .int .i64 f0, .int .i64 i0, .int .i64 k0, .int .i64 l0, .int .i64 t0, .int .i64 lo0, .int .i64 hi0, .int .i64 a0, .int .i64 x0, .int .i64 y0, .int .i64 z0, ch, asd, arr, .int .i64 beg, st, .int .i64 en, ld, .int .i64 t, .int .i64 (x), .bool false, .bool true, .int .i64 (at_ + buf)] from by rw [h4]; exact (B3.out.set_ 25 _))
    clear h4 c0 c4 c5 c20 c21 c24 c25 c26 c27 c28 f20' f21' f24' f25' f26' f27' f28' e0
    have c0 := B4.out.cell 0
    have c4 := B4.out.cell 4
    have c5 := B4.out.cell 5
    have c20 := B4.out.cell 20
    have c21 := B4.out.cell 21
    have c24 := B4.out.cell 24
    have c25 := B4.out.cell 25
    have c26 := B4.out.cell 26
    have c27 := B4.out.cell 27
    have c28 := B4.out.cell 28
    have f20' := B4.out.frozen 20
    have f21' := B4.out.frozen 21
    have f24' := B4.out.frozen 24
    have f25' := B4.out.frozen 25
    have f26' := B4.out.frozen 26
    have f27' := B4.out.frozen 27
    have f28' := B4.out.frozen 28
    clear v3
    go_wp2_with fail
    go_quiet (fail)
    go_wp2_with fail
    refine gen_wpC fun W5 h5 => ?_
    have T5 := hide (show Tw w W5 g none from by rw [h5]; (repeat' (first | (with_reducible exact T4.out) | (with_reducible refine Tw.drew ?_) | (with_reducible refine Tw.drewN ?_ _) | (with_reducible refine Tw.trans ?_ (Tw.set_ _ _ _ _ _)))))
    have B5 := hide (show Blk W5 g 77 #[.slice (some ⟨b, off, none⟩) ln lc, .slice sA sn sc, .slice qA qn qc, .int .i64 d0, .int .i64 s0, .int .i64 r0, .int .i64 f0, .int .i64 i0, .int .i64 k0, .int .i64 l0, .int .i64 t0, .int .i64 lo0, .int .i64 hi0, .int .i64 a0, .int .i64 x0, .int .i64 y0, .int .i64 z0, ch, asd, arr, .int .i64 beg, st, .int .i64 en, ld, .int .i64 t, .int .i64 (x), .bool false, .bool true, .int .i64 (at_ + buf)] from by rw [h5]; exact B4.out)
    clear h5 c0 c4 c5 c20 c21 c24 c25 c26 c27 c28 f20' f21' f24' f25' f26' f27' f28'
    have c0 := B5.out.cell 0
    have c4 := B5.out.cell 4
    have c5 := B5.out.cell 5
    have c20 := B5.out.cell 20
    have c21 := B5.out.cell 21
    have c24 := B5.out.cell 24
    have c25 := B5.out.cell 25
    have c26 := B5.out.cell 26
    have c27 := B5.out.cell 27
    have c28 := B5.out.cell 28
    have f20' := B5.out.frozen 20
    have f21' := B5.out.frozen 21
    have f24' := B5.out.frozen 24
    have f25' := B5.out.frozen 25
    have f26' := B5.out.frozen 26
    have f27' := B5.out.frozen 27
    have f28' := B5.out.frozen 28
    go_quiet (fail)
    go_upto_region 14 with (fail)
    refine gen_wpC fun W6 h6 => ?_
    have T6 := hide (show Tw w W6 g none from by rw [h6]; (repeat' (first | (with_reducible exact T5.out) | (with_reducible refine Tw.drew ?_) | (with_reducible refine Tw.drewN ?_ _) | (with_reducible refine Tw.trans ?_ (Tw.set_ _ _ _ _ _)))))
    have B6 := hide (show Blk W6 g 77 #[.slice (some ⟨b, off, none⟩) ln lc, .slice sA sn sc, .slice qA qn qc, .int .i64 d0, .int .i64 s0, .int .i64 r0, .int .i64 f0, .int .i64 i0, .int .i64 k0, .int .i64 l0, .int .i64 t0, .int .i64 lo0, .int .i64 hi0, .int .i64 a0, .int .i64 x0, .int .i64 y0, .int .i64 z0, ch, asd, arr, .int .i64 beg, st, .int .i64 en, ld, .int .i64 t, .int .i64 (x), .bool true, .bool true, .int .i64 (at_ + buf)] from by rw [h6]; exact (B5.out.set_ 26 _))
    clear h6 c0 c4 c5 c20 c21 c24 c25 c26 c27 c28 f20' f21' f24' f25' f26' f27' f28'
    have c0 := B6.out.cell 0
    have c4 := B6.out.cell 4
    have c5 := B6.out.cell 5
    have c20 := B6.out.cell 20
    have c21 := B6.out.cell 21
    have c24 := B6.out.cell 24
    have c25 := B6.out.cell 25
    have c26 := B6.out.cell 26
    have c27 := B6.out.cell 27
    have c28 := B6.out.cell 28
    have f20' := B6.out.frozen 20
    have f21' := B6.out.frozen 21
    have f24' := B6.out.frozen 24
    have f25' := B6.out.frozen 25
    have f26' := B6.out.frozen 26
    have f27' := B6.out.frozen 27
    have f28' := B6.out.frozen 28
    clear c0 c4 c5 c20 c21 c24 c25 c26 c27 c28 f20' f21' f24' f25' f26' f27' f28'
    obtain ⟨i9, hi9, hz0, hz1, hz2⟩ := info_parts Tryd.info91
    have HOk := hide (HO.out.tw T6.out (fun e => by have := (HO.out.lt g e).1; omega) (fun _ _ h => by cases h))
    have HC9 : Hid (CamS g st (at_ + buf) W6) := hide ⟨B6.out.cell 21, B6.out.cell 28⟩
    have hC9 := HC9.out.ext (Ext.drew W6)
    have S1 : Hid (sts.length + 1 ≤ maxLen) := hide (by unfold maxLen; omega)
    have S2 : Hid ((sts.length + 1) * 16 ≤ 140737488355328) := hide (by omega)
    have HBW : Hid (B ≤ W6.heap.size) := hide (Nat.le_trans hBw T6.out.size)
    refine region_z (S := CamS g st (at_ + buf)) 14 (by kernel_rfl) ?_
    refine AnyZ.take (i := 0) (oi := _) (v := ?_) rfl rfl (by kernel_rfl) (by kernel_rfl) (by kernel_rfl) (by kernel_rfl) (by kernel_rfl) (by kernel_rfl) (fun _ _ _ h => h) (Or.inl ⟨by rfl, ?_⟩) hC9 ?_
    rotate_left
    · intro W hW; obtain ⟨s1, s2⟩ := hW; first | (go_simp; done) | (go_simp; with_reducible rfl)
    simp only [Act.put, setIfInBounds_toArray, set_cons_zero, set_cons_succ]
    refine AnyZ.take (i := 1) (oi := _) (v := ?_) rfl rfl (by kernel_rfl) (by kernel_rfl) (by kernel_rfl) (by kernel_rfl) (by kernel_rfl) (by kernel_rfl) (fun _ _ _ h => h) (Or.inl ⟨by rfl, ?_⟩) hC9 ?_
    rotate_left
    · intro W hW; obtain ⟨s1, s2⟩ := hW; first | (go_simp; done) | (go_simp; with_reducible rfl)
    simp only [Act.put, setIfInBounds_toArray, set_cons_zero, set_cons_succ]
    refine AnyZ.take (i := 2) (oi := _) (v := ?_) rfl rfl (by kernel_rfl) (by kernel_rfl) (by kernel_rfl) (by kernel_rfl) (by kernel_rfl) (by kernel_rfl) (fun _ _ _ h => h) (Or.inl ⟨by rfl, ?_⟩) hC9 ?_
    rotate_left
    · intro W hW; obtain ⟨s1, s2⟩ := hW; first | (go_simp; done) | (go_simp; with_reducible rfl)
    simp only [Act.put, setIfInBounds_toArray, set_cons_zero, set_cons_succ]
    refine AnyZ.take (i := 3) (oi := _) (v := ?_) rfl rfl (by kernel_rfl) (by kernel_rfl) (by kernel_rfl) (by kernel_rfl) (by kernel_rfl) (by kernel_rfl) (fun _ _ _ h => h) (Or.inl ⟨by rfl, ?_⟩) hC9 ?_
    rotate_left
    · intro W hW; obtain ⟨s1, s2⟩ := hW; first | (go_simp; done) | (go_simp; with_reducible rfl)
    simp only [Act.put, setIfInBounds_toArray, set_cons_zero, set_cons_succ]
    refine AnyZ.take (i := 4) (oi := _) (v := ?_) rfl rfl (by kernel_rfl) (by kernel_rfl) (by kernel_rfl) (by kernel_rfl) (by kernel_rfl) (by kernel_rfl) (fun _ _ _ h => h) (Or.inl ⟨by rfl, ?_⟩) hC9 ?_
    rotate_left
    · intro W hW; obtain ⟨s1, s2⟩ := hW; first | (go_simp; done) | (go_simp; with_reducible rfl)
    simp only [Act.put, setIfInBounds_toArray, set_cons_zero, set_cons_succ]
    refine AnyZ.take (i := 5) (oi := _) (v := ?_) rfl rfl (by kernel_rfl) (by kernel_rfl) (by kernel_rfl) (by kernel_rfl) (by kernel_rfl) (by kernel_rfl) (fun _ _ _ h => h) (Or.inl ⟨by rfl, ?_⟩) hC9 ?_
    rotate_left
    · intro W hW; obtain ⟨s1, s2⟩ := hW; first | (go_simp; done) | (go_simp; with_reducible rfl)
    simp only [Act.put, setIfInBounds_toArray, set_cons_zero, set_cons_succ]
    refine AnyZ.take (i := 6) (oi := _) (v := ?_) rfl rfl (by kernel_rfl) (by kernel_rfl) (by kernel_rfl) (by kernel_rfl) (by kernel_rfl) (by kernel_rfl) (fun _ _ _ h => h) (Or.inl ⟨by rfl, ?_⟩) hC9 ?_
    rotate_left
    · intro W hW; obtain ⟨s1, s2⟩ := hW; first | (go_simp; done) | (go_simp; with_reducible rfl)
    simp only [Act.put, setIfInBounds_toArray, set_cons_zero, set_cons_succ]
    refine AnyZ.take (i := 7) (oi := _) (v := ?_) rfl rfl (by kernel_rfl) (by kernel_rfl) (by kernel_rfl) (by kernel_rfl) (by kernel_rfl) (by kernel_rfl) (fun _ _ _ h => h) (Or.inl ⟨by rfl, ?_⟩) hC9 ?_
    rotate_left
    · intro W hW; obtain ⟨s1, s2⟩ := hW; first | (go_simp; done) | (go_simp; with_reducible rfl)
    simp only [Act.put, setIfInBounds_toArray, set_cons_zero, set_cons_succ]
    refine AnyZ.take (i := 8) (oi := _) (v := ?_) rfl rfl (by kernel_rfl) (by kernel_rfl) (by kernel_rfl) (by kernel_rfl) (by kernel_rfl) (by kernel_rfl) (fun _ _ _ h => h) (Or.inl ⟨by rfl, ?_⟩) hC9 ?_
    rotate_left
    · intro W hW; obtain ⟨s1, s2⟩ := hW; first | (go_simp; done) | (go_simp; with_reducible rfl)
    simp only [Act.put, setIfInBounds_toArray, set_cons_zero, set_cons_succ]
    refine AnyZ.take (i := 9) (oi := _) (v := ?_) rfl rfl (by kernel_rfl) (by kernel_rfl) (by kernel_rfl) (by kernel_rfl) (by kernel_rfl) (by kernel_rfl) (fun _ _ _ h => h) (Or.inl ⟨by rfl, ?_⟩) hC9 ?_
    rotate_left
    · intro W hW; obtain ⟨s1, s2⟩ := hW; first | (go_simp; done) | (go_simp; with_reducible rfl)
    simp only [Act.put, setIfInBounds_toArray, set_cons_zero, set_cons_succ]
    refine AnyZ.take (i := 10) (oi := _) (v := ?_) rfl rfl (by kernel_rfl) (by kernel_rfl) (by kernel_rfl) (by kernel_rfl) (by kernel_rfl) (by kernel_rfl) (fun _ _ _ h => h) (Or.inl ⟨by rfl, ?_⟩) hC9 ?_
    rotate_left
    · intro W hW; obtain ⟨s1, s2⟩ := hW; first | (go_simp; done) | (go_simp; with_reducible rfl)
    simp only [Act.put, setIfInBounds_toArray, set_cons_zero, set_cons_succ]
    refine AnyZ.take (i := 11) (oi := _) (v := ?_) rfl rfl (by kernel_rfl) (by kernel_rfl) (by kernel_rfl) (by kernel_rfl) (by kernel_rfl) (by kernel_rfl) (fun _ _ _ h => h) (Or.inl ⟨by rfl, ?_⟩) hC9 ?_
    rotate_left
    · intro W hW; obtain ⟨s1, s2⟩ := hW; first | (go_simp; done) | (go_simp; with_reducible rfl)
    simp only [Act.put, setIfInBounds_toArray, set_cons_zero, set_cons_succ]
    refine AnyZ.step (i := 12) rfl (by kernel_rfl) (fun K hK => ?_)
    go_simp
    refine hK.out _ _ (fun _ => ?_) ?_
    · exact HC9.out.ext (by repeat' (first | (with_reducible first | exact Below.refl _ _ | assumption | refine below_drewN ?_ _ | refine Below.drew ?_ | refine ext_alloc ?_ _ | refine Below.setCell ?_ ?_ _) | go_size))
    clear hK K
    refine AnyZ.step (i := 13) rfl (by kernel_rfl) (fun K hK => ?_)
    refine step_append_at rfl _ _ 36 rfl B 91 i9 _ 16 Tryd.underlying36 hi9 hz0 hz1 hz2 rfl (by omega) len_e2 one_e2 _ _ (by rfl) (HOk.out.ext (by repeat' (first | (with_reducible first | exact Below.refl _ _ | assumption | refine below_drewN ?_ _ | refine Below.drew ?_ | refine ext_alloc ?_ _ | refine Below.setCell ?_ ?_ _) | go_size))) (some ⟨W6.heap.size, 0, none⟩) 1 1 [(at_ + buf, t)] (by simp [Act.eval]) ((At.pair1 W6 (at_ + buf) t _).ext (by repeat' (first | (with_reducible first | exact Below.refl _ _ | assumption | refine below_drewN ?_ _ | refine Below.drew ?_ | refine ext_alloc ?_ _ | refine Below.setCell ?_ ?_ _) | go_size))) S1.out S2.out (Nat.le_trans HBW.out (by simp)) ?_
    intro v7 w7 o7 g7 _ hob
    obtain ⟨A7, c7, hv7, _⟩ := o7.at_ len_e2
    rw [List.length_append] at hv7
    have hv7 : v7 = .slice A7 (sts.length + 1) c7 := hv7
    subst hv7
    have hno : some g ≠ st.ownBlock := fun e => by have := (HO.out.lt g e.symm).1; omega
    have X7 : Hid (CamS g st (at_ + buf) w7) := hide ⟨g7.cell (HC9.out.ext (by repeat' (first | (with_reducible first | exact Below.refl _ _ | assumption | refine below_drewN ?_ _ | refine Below.drew ?_ | refine ext_alloc ?_ _ | refine Below.setCell ?_ ?_ _) | go_size))).1 hno, g7.cell (HC9.out.ext (by repeat' (first | (with_reducible first | exact Below.refl _ _ | assumption | refine below_drewN ?_ _ | refine Below.drew ?_ | refine ext_alloc ?_ _ | refine Below.setCell ?_ ?_ _) | go_size))).2 hno⟩
    refine hK.out _ _ (fun _ => X7.out) ?_
    clear hK K
    simp only [Act.put, setIfInBounds_toArray, set_cons_zero, set_cons_succ]
    have B7 := hide ((B6.out.ext (show Ext W6 _ from (by repeat' (first | (with_reducible first | exact Below.refl _ _ | assumption | refine below_drewN ?_ _ | refine Below.drew ?_ | refine ext_alloc ?_ _ | refine Below.setCell ?_ ?_ _) | go_size)))).grown g7 hno)
    have T7 := hide ((T6.out.more st.ownBlock).trans ((Tw.of_ext (show Ext W6 _ from (by repeat' (first | (with_reducible first | exact Below.refl _ _ | assumption | refine below_drewN ?_ _ | refine Below.drew ?_ | refine ext_alloc ?_ _ | refine Below.setCell ?_ ?_ _) | go_size))) g st.ownBlock).trans (Tw.of_grown g7)))
    have O7 := hide o7
    have H7 : Hid ((Value.slice A7 (sts.length + 1) c7).ownBlock = st.ownBlock ∨ ∃ q, (Value.slice A7 (sts.length + 1) c7).ownBlock = some q ∧ w.heap.size ≤ q) := hide (by
      have hz7 := T6.out.size
      rcases hob with hob | hob
      · exact .inl hob
      · exact .inr ⟨_, hob, by simp; omega⟩)
    have c21 := B7.out.cell 21
    have f21 := B7.out.frozen 21
    clear o7 g7 hob hno hC9
    refine AnyZ.step (i := 14) rfl (by kernel_rfl) (fun K hK => ?_)
    go_simp
    refine hK.out _ _ (fun h => ?_) ?_
    · exact absurd (h.symm.trans (show _ = true by kernel_rfl)) (by simp)
    clear hK K
    refine AnyZ.step (i := 15) rfl (by kernel_rfl) (fun K hK => ?_)
    go_simp
    refine hK.out _ _ (fun h => ?_) ?_
    · exact absurd (h.symm.trans (show _ = true by kernel_rfl)) (by simp)
    clear hK K
    refine AnyZ.step (i := 16) rfl (by kernel_rfl) (fun K hK => ?_)
    go_simp
    refine hK.out _ _ (fun h => ?_) ?_
    · exact absurd (h.symm.trans (show _ = true by kernel_rfl)) (by simp)
    clear hK K
    refine AnyZ.step (i := 17) rfl (by kernel_rfl) (fun K hK => ?_)
    go_simp
    refine hK.out _ _ (fun h => ?_) ?_
    · exact absurd (h.symm.trans (show _ = true by kernel_rfl)) (by simp)
    clear hK K
    refine AnyZ.done (by kernel_rfl) ?_ _
    refine gen_blo fun W8 h8 => ?_
    have B8 := hide (show Blk W8 g 77 #[.slice (some ⟨b, off, none⟩) ln lc, .slice sA sn sc, .slice qA qn qc, .int .i64 d0, .int .i64 s0, .int .i64 r0, .int .i64 f0, .int .i64 i0, .int .i64 k0, .int .i64 l0, .int .i64 t0, .int .i64 lo0, .int .i64 hi0, .int .i64 a0, .int .i64 x0, .int .i64 y0, .int .i64 z0, ch, asd, arr, .int .i64 beg, .slice A7 (sts.length + 1) c7, .int .i64 en, ld, .int .i64 t, .int .i64 (x), .bool true, .bool true, .int .i64 (at_ + buf)] from by rw [h8]; exact B7.out.set_ 21 _)
    have T8 := hide (show Tw w W8 g st.ownBlock from by rw [h8]; exact T7.out.trans (Tw.set_ _ _ _ _ _))
    have O8 := hide (show Own W8 B 91 2 e2 (.slice A7 (sts.length + 1) c7) _ from by rw [h8]; exact O7.out.kept (grown_set _ g 21 _) (.inr (fun e => by have := (O7.out.lt g e).1; omega)))
    clear h8 c21 f21
    go_wp2_with fail
    go_end0
    exact ⟨_, rfl, B8.out, O8.out, T8.out, H7.out⟩
  by_cases q2 : n + 1 = ln
  · have hv := HVY.out (.inr (by rw [hlast.out]; exact decide_eq_true q2))
    rw [hv]
    clear hv HVY HVN
    have q3 : ((n : Int) == (ln : Int) - 1) = true := by rw [beq_iff_eq]; omega
    have q4 : ¬ r0 ≤ x := q1
    clear q2
    have T0 := hide (Tw.refl w g none)
    have B0 := H
    go_enter Tryd.func31, Tryd.ntmps31
    go_wp2_with fail
    go_quiet (fail)
    go_wp2_with fail
    refine gen_wpC fun W1 h1 => ?_
    have T1 := hide (show Tw w W1 g none from by rw [h1]; (repeat' (first | (with_reducible exact T0.out) | (with_reducible refine Tw.drew ?_) | (with_reducible refine Tw.drewN ?_ _) | (with_reducible refine Tw.trans ?_ (Tw.set_ _ _ _ _ _)))))
    have B1 := hide (show Blk W1 g 77 #[.slice (some ⟨b, off, none⟩) ln lc, .slice sA sn sc, .slice qA qn qc, .int .i64 d0, .int .i64 s0, .int .i64 r0, .int .i64 f0, .int .i64 i0, .int .i64 k0, .int .i64 l0, .int .i64 t0, .int .i64 lo0, .int .i64 hi0, .int .i64 a0, .int .i64 x0, .int .i64 y0, .int .i64 z0, ch, asd, arr, .int .i64 beg, st, .int .i64 en, ld, .int .i64 at_, .int .i64 buf, .bool true, .bool true, .int .i64 stl] from by rw [h1]; exact B0.out)
    clear h1 c0 c4 c5 c20 c21 c24 c25 c26 c27 c28 f20 f24 f25 f26 f27 f28
    have c0 := B1.out.cell 0
    have c4 := B1.out.cell 4
    have c5 := B1.out.cell 5
    have c20 := B1.out.cell 20
    have c21 := B1.out.cell 21
    have c24 := B1.out.cell 24
    have c25 := B1.out.cell 25
    have c26 := B1.out.cell 26
    have c27 := B1.out.cell 27
    have c28 := B1.out.cell 28
    have f20' := B1.out.frozen 20
    have f21' := B1.out.frozen 21
    have f24' := B1.out.frozen 24
    have f25' := B1.out.frozen 25
    have f26' := B1.out.frozen 26
    have f27' := B1.out.frozen 27
    have f28' := B1.out.frozen 28
    have v1 : IntKind.i64.wrap (at_ + buf) = at_ + buf := by rw [IntKind.wrap_i64]; omega
    go_region
    go_upto_region 4 with (fail)
    refine gen_wpC fun W2 h2 => ?_
    have T2 := hide (show Tw w W2 g none from by rw [h2]; (repeat' (first | (with_reducible exact T1.out) | (with_reducible refine Tw.drew ?_) | (with_reducible refine Tw.drewN ?_ _) | (with_reducible refine Tw.trans ?_ (Tw.set_ _ _ _ _ _)))))
    have B2 := hide (show Blk W2 g 77 #[.slice (some ⟨b, off, none⟩) ln lc, .slice sA sn sc, .slice qA qn qc, .int .i64 d0, .int .i64 s0, .int .i64 r0, .int .i64 f0, .int .i64 i0, .int .i64 k0, .int .i64 l0, .int .i64 t0, .int .i64 lo0, .int .i64 hi0, .int .i64 a0, .int .i64 x0, .int .i64 y0, .int .i64 z0, ch, asd, arr, .int .i64 beg, st, .int .i64 en, ld, .int .i64 at_, .int .i64 buf, .bool false, .bool true, .int .i64 (at_ + buf)] from by rw [h2]; exact ((B1.out.set_ 26 _).set_ 28 _))
    clear h2 c0 c4 c5 c20 c21 c24 c25 c26 c27 c28 f20' f21' f24' f25' f26' f27' f28'
    have c0 := B2.out.cell 0
    have c4 := B2.out.cell 4
    have c5 := B2.out.cell 5
    have c20 := B2.out.cell 20
    have c21 := B2.out.cell 21
    have c24 := B2.out.cell 24
    have c25 := B2.out.cell 25
    have c26 := B2.out.cell 26
    have c27 := B2.out.cell 27
    have c28 := B2.out.cell 28
    have f20' := B2.out.frozen 20
    have f21' := B2.out.frozen 21
    have f24' := B2.out.frozen 24
    have f25' := B2.out.frozen 25
    have f26' := B2.out.frozen 26
    have f27' := B2.out.frozen 27
    have f28' := B2.out.frozen 28
    clear v1
    have v2 : decide (at_ ≤ at_ + buf) = true := by simp; omega
    go_quiet (fail)
    go_upto_region 7 with (fail)
    refine gen_wpC fun W3 h3 => ?_
    have T3 := hide (show Tw w W3 g none from by rw [h3]; (repeat' (first | (with_reducible exact T2.out) | (with_reducible refine Tw.drew ?_) | (with_reducible refine Tw.drewN ?_ _) | (with_reducible refine Tw.trans ?_ (Tw.set_ _ _ _ _ _)))))
    have B3 := hide (show Blk W3 g 77 #[.slice (some ⟨b, off, none⟩) ln lc, .slice sA sn sc, .slice qA qn qc, .int .i64 d0, .int .i64 s0, .int .i64 r0, .int .i64 f0, .int .i64 i0, .int .i64 k0, .int .i64 l0, .int .i64 t0, .int .i64 lo0, .int .i64 hi0, .int .i64 a0, .int .i64 x0, .int .i64 y0, .int .i64 z0, ch, asd, arr, .int .i64 beg, st, .int .i64 en, ld, .int .i64 t, .int .i64 0, .bool false, .bool true, .int .i64 (at_ + buf)] from by rw [h3]; exact ((B2.out.set_ 25 _).set_ 24 _))
    clear h3 c0 c4 c5 c20 c21 c24 c25 c26 c27 c28 f20' f21' f24' f25' f26' f27' f28'
    have c0 := B3.out.cell 0
    have c4 := B3.out.cell 4
    have c5 := B3.out.cell 5
    have c20 := B3.out.cell 20
    have c21 := B3.out.cell 21
    have c24 := B3.out.cell 24
    have c25 := B3.out.cell 25
    have c26 := B3.out.cell 26
    have c27 := B3.out.cell 27
    have c28 := B3.out.cell 28
    have f20' := B3.out.frozen 20
    have f21' := B3.out.frozen 21
    have f24' := B3.out.frozen 24
    have f25' := B3.out.frozen 25
    have f26' := B3.out.frozen 26
    have f27' := B3.out.frozen 27
    have f28' := B3.out.frozen 28
    have e0 := HE.out W3 T3.out
    clear v2
    have v3 : IntKind.i64.wrap x = x := by rw [IntKind.wrap_i64]; omega
    go_region
    go_upto_region 8 with (fail)
    refine gen_wpC fun W4 h4 => ?_
    have T4 := hide (show Tw w W4 g none from by rw [h4]; (repeat' (first | (with_reducible exact T3.out) | (with_reducible refine Tw.drew ?_) | (with_reducible refine Tw.drewN ?_ _) | (with_reducible refine Tw.trans ?_ (Tw.set_ _ _ _ _ _)))))
    have B4 := hide (show Blk W4 g 77 #[.slice (some ⟨b, off, none⟩) ln lc, .slice sA sn sc, .slice qA qn qc, .int .i64 d0, .int .i64 s0, .int .i64 r0, .int .i64 f0, .int .i64 i0, .int .i64 k0, .int .i64 l0, .int .i64 t0, .int .i64 lo0, .int .i64 hi0, .int .i64 a0, .int .i64 x0, .int .i64 y0, .int .i64 z0, ch, asd, arr, .int .i64 beg, st, .int .i64 en, ld, .int .i64 t, .int .i64 (x), .bool false, .bool true, .int .i64 (at_ + buf)] from by rw [h4]; exact (B3.out.set_ 25 _))
    clear h4 c0 c4 c5 c20 c21 c24 c25 c26 c27 c28 f20' f21' f24' f25' f26' f27' f28' e0
    have c0 := B4.out.cell 0
    have c4 := B4.out.cell 4
    have c5 := B4.out.cell 5
    have c20 := B4.out.cell 20
    have c21 := B4.out.cell 21
    have c24 := B4.out.cell 24
    have c25 := B4.out.cell 25
    have c26 := B4.out.cell 26
    have c27 := B4.out.cell 27
    have c28 := B4.out.cell 28
    have f20' := B4.out.frozen 20
    have f21' := B4.out.frozen 21
    have f24' := B4.out.frozen 24
    have f25' := B4.out.frozen 25
    have f26' := B4.out.frozen 26
    have f27' := B4.out.frozen 27
    have f28' := B4.out.frozen 28
    clear v3
    go_wp2_with fail
    go_quiet (fail)
    go_wp2_with fail
    refine gen_wpC fun W5 h5 => ?_
    have T5 := hide (show Tw w W5 g none from by rw [h5]; (repeat' (first | (with_reducible exact T4.out) | (with_reducible refine Tw.drew ?_) | (with_reducible refine Tw.drewN ?_ _) | (with_reducible refine Tw.trans ?_ (Tw.set_ _ _ _ _ _)))))
    have B5 := hide (show Blk W5 g 77 #[.slice (some ⟨b, off, none⟩) ln lc, .slice sA sn sc, .slice qA qn qc, .int .i64 d0, .int .i64 s0, .int .i64 r0, .int .i64 f0, .int .i64 i0, .int .i64 k0, .int .i64 l0, .int .i64 t0, .int .i64 lo0, .int .i64 hi0, .int .i64 a0, .int .i64 x0, .int .i64 y0, .int .i64 z0, ch, asd, arr, .int .i64 beg, st, .int .i64 en, ld, .int .i64 t, .int .i64 (x), .bool false, .bool true, .int .i64 (at_ + buf)] from by rw [h5]; exact B4.out)
    clear h5 c0 c4 c5 c20 c21 c24 c25 c26 c27 c28 f20' f21' f24' f25' f26' f27' f28'
    have c0 := B5.out.cell 0
    have c4 := B5.out.cell 4
    have c5 := B5.out.cell 5
    have c20 := B5.out.cell 20
    have c21 := B5.out.cell 21
    have c24 := B5.out.cell 24
    have c25 := B5.out.cell 25
    have c26 := B5.out.cell 26
    have c27 := B5.out.cell 27
    have c28 := B5.out.cell 28
    have f20' := B5.out.frozen 20
    have f21' := B5.out.frozen 21
    have f24' := B5.out.frozen 24
    have f25' := B5.out.frozen 25
    have f26' := B5.out.frozen 26
    have f27' := B5.out.frozen 27
    have f28' := B5.out.frozen 28
    go_quiet (fail)
    go_upto_region 14 with (fail)
    refine gen_wpC fun W6 h6 => ?_
    have T6 := hide (show Tw w W6 g none from by rw [h6]; (repeat' (first | (with_reducible exact T5.out) | (with_reducible refine Tw.drew ?_) | (with_reducible refine Tw.drewN ?_ _) | (with_reducible refine Tw.trans ?_ (Tw.set_ _ _ _ _ _)))))
    have B6 := hide (show Blk W6 g 77 #[.slice (some ⟨b, off, none⟩) ln lc, .slice sA sn sc, .slice qA qn qc, .int .i64 d0, .int .i64 s0, .int .i64 r0, .int .i64 f0, .int .i64 i0, .int .i64 k0, .int .i64 l0, .int .i64 t0, .int .i64 lo0, .int .i64 hi0, .int .i64 a0, .int .i64 x0, .int .i64 y0, .int .i64 z0, ch, asd, arr, .int .i64 beg, st, .int .i64 en, ld, .int .i64 t, .int .i64 (x), .bool true, .bool true, .int .i64 (at_ + buf)] from by rw [h6]; exact (B5.out.set_ 26 _))
    clear h6 c0 c4 c5 c20 c21 c24 c25 c26 c27 c28 f20' f21' f24' f25' f26' f27' f28'
    have c0 := B6.out.cell 0
    have c4 := B6.out.cell 4
    have c5 := B6.out.cell 5
    have c20 := B6.out.cell 20
    have c21 := B6.out.cell 21
    have c24 := B6.out.cell 24
    have c25 := B6.out.cell 25
    have c26 := B6.out.cell 26
    have c27 := B6.out.cell 27
    have c28 := B6.out.cell 28
    have f20' := B6.out.frozen 20
    have f21' := B6.out.frozen 21
    have f24' := B6.out.frozen 24
    have f25' := B6.out.frozen 25
    have f26' := B6.out.frozen 26
    have f27' := B6.out.frozen 27
    have f28' := B6.out.frozen 28
    clear c0 c4 c5 c20 c21 c24 c25 c26 c27 c28 f20' f21' f24' f25' f26' f27' f28'
    obtain ⟨i9, hi9, hz0, hz1, hz2⟩ := info_parts Tryd.info91
    have HOk := hide (HO.out.tw T6.out (fun e => by have := (HO.out.lt g e).1; omega) (fun _ _ h => by cases h))
    have HC9 : Hid (CamS g st (at_ + buf) W6) := hide ⟨B6.out.cell 21, B6.out.cell 28⟩
    have hC9 := HC9.out.ext (Ext.drew W6)
    have S1 : Hid (sts.length + 1 ≤ maxLen) := hide (by unfold maxLen; omega)
    have S2 : Hid ((sts.length + 1) * 16 ≤ 140737488355328) := hide (by omega)
    have HBW : Hid (B ≤ W6.heap.size) := hide (Nat.le_trans hBw T6.out.size)
    refine region_z (S := CamS g st (at_ + buf)) 14 (by kernel_rfl) ?_
    refine AnyZ.take (i := 0) (oi := _) (v := ?_) rfl rfl (by kernel_rfl) (by kernel_rfl) (by kernel_rfl) (by kernel_rfl) (by kernel_rfl) (by kernel_rfl) (fun _ _ _ h => h) (Or.inl ⟨by rfl, ?_⟩) hC9 ?_
    rotate_left
    · intro W hW; obtain ⟨s1, s2⟩ := hW; first | (go_simp; done) | (go_simp; with_reducible rfl)
    simp only [Act.put, setIfInBounds_toArray, set_cons_zero, set_cons_succ]
    refine AnyZ.take (i := 1) (oi := _) (v := ?_) rfl rfl (by kernel_rfl) (by kernel_rfl) (by kernel_rfl) (by kernel_rfl) (by kernel_rfl) (by kernel_rfl) (fun _ _ _ h => h) (Or.inl ⟨by rfl, ?_⟩) hC9 ?_
    rotate_left
    · intro W hW; obtain ⟨s1, s2⟩ := hW; first | (go_simp; done) | (go_simp; with_reducible rfl)
    simp only [Act.put, setIfInBounds_toArray, set_cons_zero, set_cons_succ]
    refine AnyZ.take (i := 2) (oi := _) (v := ?_) rfl rfl (by kernel_rfl) (by kernel_rfl) (by kernel_rfl) (by kernel_rfl) (by kernel_rfl) (by kernel_rfl) (fun _ _ _ h => h) (Or.inl ⟨by rfl, ?_⟩) hC9 ?_
    rotate_left
    · intro W hW; obtain ⟨s1, s2⟩ := hW; first | (go_simp; done) | (go_simp; with_reducible rfl)
    simp only [Act.put, setIfInBounds_toArray, set_cons_zero, set_cons_succ]
    refine AnyZ.take (i := 3) (oi := _) (v := ?_) rfl rfl (by kernel_rfl) (by kernel_rfl) (by kernel_rfl) (by kernel_rfl) (by kernel_rfl) (by kernel_rfl) (fun _ _ _ h => h) (Or.inl ⟨by rfl, ?_⟩) hC9 ?_
    rotate_left
    · intro W hW; obtain ⟨s1, s2⟩ := hW; first | (go_simp; done) | (go_simp; with_reducible rfl)
    simp only [Act.put, setIfInBounds_toArray, set_cons_zero, set_cons_succ]
    refine AnyZ.take (i := 4) (oi := _) (v := ?_) rfl rfl (by kernel_rfl) (by kernel_rfl) (by kernel_rfl) (by kernel_rfl) (by kernel_rfl) (by kernel_rfl) (fun _ _ _ h => h) (Or.inl ⟨by rfl, ?_⟩) hC9 ?_
    rotate_left
    · intro W hW; obtain ⟨s1, s2⟩ := hW; first | (go_simp; done) | (go_simp; with_reducible rfl)
    simp only [Act.put, setIfInBounds_toArray, set_cons_zero, set_cons_succ]
    refine AnyZ.take (i := 5) (oi := _) (v := ?_) rfl rfl (by kernel_rfl) (by kernel_rfl) (by kernel_rfl) (by kernel_rfl) (by kernel_rfl) (by kernel_rfl) (fun _ _ _ h => h) (Or.inl ⟨by rfl, ?_⟩) hC9 ?_
    rotate_left
    · intro W hW; obtain ⟨s1, s2⟩ := hW; first | (go_simp; done) | (go_simp; with_reducible rfl)
    simp only [Act.put, setIfInBounds_toArray, set_cons_zero, set_cons_succ]
    refine AnyZ.take (i := 6) (oi := _) (v := ?_) rfl rfl (by kernel_rfl) (by kernel_rfl) (by kernel_rfl) (by kernel_rfl) (by kernel_rfl) (by kernel_rfl) (fun _ _ _ h => h) (Or.inl ⟨by rfl, ?_⟩) hC9 ?_
    rotate_left
    · intro W hW; obtain ⟨s1, s2⟩ := hW; first | (go_simp; done) | (go_simp; with_reducible rfl)
    simp only [Act.put, setIfInBounds_toArray, set_cons_zero, set_cons_succ]
    refine AnyZ.take (i := 7) (oi := _) (v := ?_) rfl rfl (by kernel_rfl) (by kernel_rfl) (by kernel_rfl) (by kernel_rfl) (by kernel_rfl) (by kernel_rfl) (fun _ _ _ h => h) (Or.inl ⟨by rfl, ?_⟩) hC9 ?_
    rotate_left
    · intro W hW; obtain ⟨s1, s2⟩ := hW; first | (go_simp; done) | (go_simp; with_reducible rfl)
    simp only [Act.put, setIfInBounds_toArray, set_cons_zero, set_cons_succ]
    refine AnyZ.take (i := 8) (oi := _) (v := ?_) rfl rfl (by kernel_rfl) (by kernel_rfl) (by kernel_rfl) (by kernel_rfl) (by kernel_rfl) (by kernel_rfl) (fun _ _ _ h => h) (Or.inl ⟨by rfl, ?_⟩) hC9 ?_
    rotate_left
    · intro W hW; obtain ⟨s1, s2⟩ := hW; first | (go_simp; done) | (go_simp; with_reducible rfl)
    simp only [Act.put, setIfInBounds_toArray, set_cons_zero, set_cons_succ]
    refine AnyZ.take (i := 9) (oi := _) (v := ?_) rfl rfl (by kernel_rfl) (by kernel_rfl) (by kernel_rfl) (by kernel_rfl) (by kernel_rfl) (by kernel_rfl) (fun _ _ _ h => h) (Or.inl ⟨by rfl, ?_⟩) hC9 ?_
    rotate_left
    · intro W hW; obtain ⟨s1, s2⟩ := hW; first | (go_simp; done) | (go_simp; with_reducible rfl)
    simp only [Act.put, setIfInBounds_toArray, set_cons_zero, set_cons_succ]
    refine AnyZ.take (i := 10) (oi := _) (v := ?_) rfl rfl (by kernel_rfl) (by kernel_rfl) (by kernel_rfl) (by kernel_rfl) (by kernel_rfl) (by kernel_rfl) (fun _ _ _ h => h) (Or.inl ⟨by rfl, ?_⟩) hC9 ?_
    rotate_left
    · intro W hW; obtain ⟨s1, s2⟩ := hW; first | (go_simp; done) | (go_simp; with_reducible rfl)
    simp only [Act.put, setIfInBounds_toArray, set_cons_zero, set_cons_succ]
    refine AnyZ.take (i := 11) (oi := _) (v := ?_) rfl rfl (by kernel_rfl) (by kernel_rfl) (by kernel_rfl) (by kernel_rfl) (by kernel_rfl) (by kernel_rfl) (fun _ _ _ h => h) (Or.inl ⟨by rfl, ?_⟩) hC9 ?_
    rotate_left
    · intro W hW; obtain ⟨s1, s2⟩ := hW; first | (go_simp; done) | (go_simp; with_reducible rfl)
    simp only [Act.put, setIfInBounds_toArray, set_cons_zero, set_cons_succ]
    refine AnyZ.step (i := 12) rfl (by kernel_rfl) (fun K hK => ?_)
    go_simp
    refine hK.out _ _ (fun _ => ?_) ?_
    · exact HC9.out.ext (by repeat' (first | (with_reducible first | exact Below.refl _ _ | assumption | refine below_drewN ?_ _ | refine Below.drew ?_ | refine ext_alloc ?_ _ | refine Below.setCell ?_ ?_ _) | go_size))
    clear hK K
    refine AnyZ.step (i := 13) rfl (by kernel_rfl) (fun K hK => ?_)
    refine step_append_at rfl _ _ 36 rfl B 91 i9 _ 16 Tryd.underlying36 hi9 hz0 hz1 hz2 rfl (by omega) len_e2 one_e2 _ _ (by rfl) (HOk.out.ext (by repeat' (first | (with_reducible first | exact Below.refl _ _ | assumption | refine below_drewN ?_ _ | refine Below.drew ?_ | refine ext_alloc ?_ _ | refine Below.setCell ?_ ?_ _) | go_size))) (some ⟨W6.heap.size, 0, none⟩) 1 1 [(at_ + buf, t)] (by simp [Act.eval]) ((At.pair1 W6 (at_ + buf) t _).ext (by repeat' (first | (with_reducible first | exact Below.refl _ _ | assumption | refine below_drewN ?_ _ | refine Below.drew ?_ | refine ext_alloc ?_ _ | refine Below.setCell ?_ ?_ _) | go_size))) S1.out S2.out (Nat.le_trans HBW.out (by simp)) ?_
    intro v7 w7 o7 g7 _ hob
    obtain ⟨A7, c7, hv7, _⟩ := o7.at_ len_e2
    rw [List.length_append] at hv7
    have hv7 : v7 = .slice A7 (sts.length + 1) c7 := hv7
    subst hv7
    have hno : some g ≠ st.ownBlock := fun e => by have := (HO.out.lt g e.symm).1; omega
    have X7 : Hid (CamS g st (at_ + buf) w7) := hide ⟨g7.cell (HC9.out.ext (by repeat' (first | (with_reducible first | exact Below.refl _ _ | assumption | refine below_drewN ?_ _ | refine Below.drew ?_ | refine ext_alloc ?_ _ | refine Below.setCell ?_ ?_ _) | go_size))).1 hno, g7.cell (HC9.out.ext (by repeat' (first | (with_reducible first | exact Below.refl _ _ | assumption | refine below_drewN ?_ _ | refine Below.drew ?_ | refine ext_alloc ?_ _ | refine Below.setCell ?_ ?_ _) | go_size))).2 hno⟩
    refine hK.out _ _ (fun _ => X7.out) ?_
    clear hK K
    simp only [Act.put, setIfInBounds_toArray, set_cons_zero, set_cons_succ]
    have B7 := hide ((B6.out.ext (show Ext W6 _ from (by repeat' (first | (with_reducible first | exact Below.refl _ _ | assumption | refine below_drewN ?_ _ | refine Below.drew ?_ | refine ext_alloc ?_ _ | refine Below.setCell ?_ ?_ _) | go_size)))).grown g7 hno)
    have T7 := hide ((T6.out.more st.ownBlock).trans ((Tw.of_ext (show Ext W6 _ from (by repeat' (first | (with_reducible first | exact Below.refl _ _ | assumption | refine below_drewN ?_ _ | refine Below.drew ?_ | refine ext_alloc ?_ _ | refine Below.setCell ?_ ?_ _) | go_size))) g st.ownBlock).trans (Tw.of_grown g7)))
    have O7 := hide o7
    have H7 : Hid ((Value.slice A7 (sts.length + 1) c7).ownBlock = st.ownBlock ∨ ∃ q, (Value.slice A7 (sts.length + 1) c7).ownBlock = some q ∧ w.heap.size ≤ q) := hide (by
      have hz7 := T6.out.size
      rcases hob with hob | hob
      · exact .inl hob
      · exact .inr ⟨_, hob, by simp; omega⟩)
    have c21 := B7.out.cell 21
    have f21 := B7.out.frozen 21
    clear o7 g7 hob hno hC9
    refine AnyZ.step (i := 14) rfl (by kernel_rfl) (fun K hK => ?_)
    go_simp
    refine hK.out _ _ (fun h => ?_) ?_
    · exact absurd (h.symm.trans (show _ = true by kernel_rfl)) (by simp)
    clear hK K
    refine AnyZ.step (i := 15) rfl (by kernel_rfl) (fun K hK => ?_)
    go_simp
    refine hK.out _ _ (fun h => ?_) ?_
    · exact absurd (h.symm.trans (show _ = true by kernel_rfl)) (by simp)
    clear hK K
    refine AnyZ.step (i := 16) rfl (by kernel_rfl) (fun K hK => ?_)
    go_simp
    refine hK.out _ _ (fun h => ?_) ?_
    · exact absurd (h.symm.trans (show _ = true by kernel_rfl)) (by simp)
    clear hK K
    refine AnyZ.step (i := 17) rfl (by kernel_rfl) (fun K hK => ?_)
    go_simp
    refine hK.out _ _ (fun h => ?_) ?_
    · exact absurd (h.symm.trans (show _ = true by kernel_rfl)) (by simp)
    clear hK K
    refine AnyZ.done (by kernel_rfl) ?_ _
    refine gen_blo fun W8 h8 => ?_
    have B8 := hide (show Blk W8 g 77 #[.slice (some ⟨b, off, none⟩) ln lc, .slice sA sn sc, .slice qA qn qc, .int .i64 d0, .int .i64 s0, .int .i64 r0, .int .i64 f0, .int .i64 i0, .int .i64 k0, .int .i64 l0, .int .i64 t0, .int .i64 lo0, .int .i64 hi0, .int .i64 a0, .int .i64 x0, .int .i64 y0, .int .i64 z0, ch, asd, arr, .int .i64 beg, .slice A7 (sts.length + 1) c7, .int .i64 en, ld, .int .i64 t, .int .i64 (x), .bool true, .bool true, .int .i64 (at_ + buf)] from by rw [h8]; exact B7.out.set_ 21 _)
    have T8 := hide (show Tw w W8 g st.ownBlock from by rw [h8]; exact T7.out.trans (Tw.set_ _ _ _ _ _))
    have O8 := hide (show Own W8 B 91 2 e2 (.slice A7 (sts.length + 1) c7) _ from by rw [h8]; exact O7.out.kept (grown_set _ g 21 _) (.inr (fun e => by have := (O7.out.lt g e).1; omega)))
    clear h8 c21 f21
    go_wp2_with fail
    go_end0
    exact ⟨_, rfl, B8.out, O8.out, T8.out, H7.out⟩
  have hv := HVN.out q1 (by rw [hlast.out]; exact decide_eq_false q2)
  rw [hv]
  clear hv HVY HVN
  have q3 : ((n : Int) == (ln : Int) - 1) = false := by rw [beq_eq_false_iff_ne]; omega
  clear q2
  have T0 := hide (Tw.refl w g none)
  have B0 := H
  go_enter Tryd.func31, Tryd.ntmps31
  go_wp2_with fail
  go_quiet (fail)
  go_wp2_with fail
  refine gen_wpC fun W1 h1 => ?_
  have T1 := hide (show Tw w W1 g none from by rw [h1]; (repeat' (first | (with_reducible exact T0.out) | (with_reducible refine Tw.drew ?_) | (with_reducible refine Tw.drewN ?_ _) | (with_reducible refine Tw.trans ?_ (Tw.set_ _ _ _ _ _)))))
  have B1 := hide (show Blk W1 g 77 #[.slice (some ⟨b, off, none⟩) ln lc, .slice sA sn sc, .slice qA qn qc, .int .i64 d0, .int .i64 s0, .int .i64 r0, .int .i64 f0, .int .i64 i0, .int .i64 k0, .int .i64 l0, .int .i64 t0, .int .i64 lo0, .int .i64 hi0, .int .i64 a0, .int .i64 x0, .int .i64 y0, .int .i64 z0, ch, asd, arr, .int .i64 beg, st, .int .i64 en, ld, .int .i64 at_, .int .i64 buf, .bool true, .bool true, .int .i64 stl] from by rw [h1]; exact B0.out)
  clear h1 c0 c4 c5 c20 c21 c24 c25 c26 c27 c28 f20 f24 f25 f26 f27 f28
  have c0 := B1.out.cell 0
  have c4 := B1.out.cell 4
  have c5 := B1.out.cell 5
  have c20 := B1.out.cell 20
  have c21 := B1.out.cell 21
  have c24 := B1.out.cell 24
  have c25 := B1.out.cell 25
  have c26 := B1.out.cell 26
  have c27 := B1.out.cell 27
  have c28 := B1.out.cell 28
  have f20' := B1.out.frozen 20
  have f21' := B1.out.frozen 21
  have f24' := B1.out.frozen 24
  have f25' := B1.out.frozen 25
  have f26' := B1.out.frozen 26
  have f27' := B1.out.frozen 27
  have f28' := B1.out.frozen 28
  have v1 : IntKind.i64.wrap (at_ + buf) = at_ + buf := by rw [IntKind.wrap_i64]; omega
  go_region
  go_upto_region 4 with (fail)
  refine gen_wpC fun W2 h2 => ?_
  have T2 := hide (show Tw w W2 g none from by rw [h2]; (repeat' (first | (with_reducible exact T1.out) | (with_reducible refine Tw.drew ?_) | (with_reducible refine Tw.drewN ?_ _) | (with_reducible refine Tw.trans ?_ (Tw.set_ _ _ _ _ _)))))
  have B2 := hide (show Blk W2 g 77 #[.slice (some ⟨b, off, none⟩) ln lc, .slice sA sn sc, .slice qA qn qc, .int .i64 d0, .int .i64 s0, .int .i64 r0, .int .i64 f0, .int .i64 i0, .int .i64 k0, .int .i64 l0, .int .i64 t0, .int .i64 lo0, .int .i64 hi0, .int .i64 a0, .int .i64 x0, .int .i64 y0, .int .i64 z0, ch, asd, arr, .int .i64 beg, st, .int .i64 en, ld, .int .i64 at_, .int .i64 buf, .bool false, .bool true, .int .i64 (at_ + buf)] from by rw [h2]; exact ((B1.out.set_ 26 _).set_ 28 _))
  clear h2 c0 c4 c5 c20 c21 c24 c25 c26 c27 c28 f20' f21' f24' f25' f26' f27' f28'
  have c0 := B2.out.cell 0
  have c4 := B2.out.cell 4
  have c5 := B2.out.cell 5
  have c20 := B2.out.cell 20
  have c21 := B2.out.cell 21
  have c24 := B2.out.cell 24
  have c25 := B2.out.cell 25
  have c26 := B2.out.cell 26
  have c27 := B2.out.cell 27
  have c28 := B2.out.cell 28
  have f20' := B2.out.frozen 20
  have f21' := B2.out.frozen 21
  have f24' := B2.out.frozen 24
  have f25' := B2.out.frozen 25
  have f26' := B2.out.frozen 26
  have f27' := B2.out.frozen 27
  have f28' := B2.out.frozen 28
  clear v1
  have v2 : decide (at_ ≤ at_ + buf) = true := by simp; omega
  go_quiet (fail)
  go_upto_region 7 with (fail)
  refine gen_wpC fun W3 h3 => ?_
  have T3 := hide (show Tw w W3 g none from by rw [h3]; (repeat' (first | (with_reducible exact T2.out) | (with_reducible refine Tw.drew ?_) | (with_reducible refine Tw.drewN ?_ _) | (with_reducible refine Tw.trans ?_ (Tw.set_ _ _ _ _ _)))))
  have B3 := hide (show Blk W3 g 77 #[.slice (some ⟨b, off, none⟩) ln lc, .slice sA sn sc, .slice qA qn qc, .int .i64 d0, .int .i64 s0, .int .i64 r0, .int .i64 f0, .int .i64 i0, .int .i64 k0, .int .i64 l0, .int .i64 t0, .int .i64 lo0, .int .i64 hi0, .int .i64 a0, .int .i64 x0, .int .i64 y0, .int .i64 z0, ch, asd, arr, .int .i64 beg, st, .int .i64 en, ld, .int .i64 t, .int .i64 0, .bool false, .bool true, .int .i64 (at_ + buf)] from by rw [h3]; exact ((B2.out.set_ 25 _).set_ 24 _))
  clear h3 c0 c4 c5 c20 c21 c24 c25 c26 c27 c28 f20' f21' f24' f25' f26' f27' f28'
  have c0 := B3.out.cell 0
  have c4 := B3.out.cell 4
  have c5 := B3.out.cell 5
  have c20 := B3.out.cell 20
  have c21 := B3.out.cell 21
  have c24 := B3.out.cell 24
  have c25 := B3.out.cell 25
  have c26 := B3.out.cell 26
  have c27 := B3.out.cell 27
  have c28 := B3.out.cell 28
  have f20' := B3.out.frozen 20
  have f21' := B3.out.frozen 21
  have f24' := B3.out.frozen 24
  have f25' := B3.out.frozen 25
  have f26' := B3.out.frozen 26
  have f27' := B3.out.frozen 27
  have f28' := B3.out.frozen 28
  have e0 := HE.out W3 T3.out
  clear v2
  have v3 : IntKind.i64.wrap x = x := by rw [IntKind.wrap_i64]; omega
  go_region
  go_upto_region 8 with (fail)
  refine gen_wpC fun W4 h4 => ?_
  have T4 := hide (show Tw w W4 g none from by rw [h4]; (repeat' (first | (with_reducible exact T3.out) | (with_reducible refine Tw.drew ?_) | (with_reducible refine Tw.drewN ?_ _) | (with_reducible refine Tw.trans ?_ (Tw.set_ _ _ _ _ _)))))
  have B4 := hide (show Blk W4 g 77 #[.slice (some ⟨b, off, none⟩) ln lc, .slice sA sn sc, .slice qA qn qc, .int .i64 d0, .int .i64 s0, .int .i64 r0, .int .i64 f0, .int .i64 i0, .int .i64 k0, .int .i64 l0, .int .i64 t0, .int .i64 lo0, .int .i64 hi0, .int .i64 a0, .int .i64 x0, .int .i64 y0, .int .i64 z0, ch, asd, arr, .int .i64 beg, st, .int .i64 en, ld, .int .i64 t, .int .i64 (x), .bool false, .bool true, .int .i64 (at_ + buf)] from by rw [h4]; exact (B3.out.set_ 25 _))
  clear h4 c0 c4 c5 c20 c21 c24 c25 c26 c27 c28 f20' f21' f24' f25' f26' f27' f28' e0
  have c0 := B4.out.cell 0
  have c4 := B4.out.cell 4
  have c5 := B4.out.cell 5
  have c20 := B4.out.cell 20
  have c21 := B4.out.cell 21
  have c24 := B4.out.cell 24
  have c25 := B4.out.cell 25
  have c26 := B4.out.cell 26
  have c27 := B4.out.cell 27
  have c28 := B4.out.cell 28
  have f20' := B4.out.frozen 20
  have f21' := B4.out.frozen 21
  have f24' := B4.out.frozen 24
  have f25' := B4.out.frozen 25
  have f26' := B4.out.frozen 26
  have f27' := B4.out.frozen 27
  have f28' := B4.out.frozen 28
  clear v3
  go_wp2_with fail
  go_quiet (fail)
  go_wp2_with fail
  refine gen_wpC fun W5 h5 => ?_
  have T5 := hide (show Tw w W5 g none from by rw [h5]; (repeat' (first | (with_reducible exact T4.out) | (with_reducible refine Tw.drew ?_) | (with_reducible refine Tw.drewN ?_ _) | (with_reducible refine Tw.trans ?_ (Tw.set_ _ _ _ _ _)))))
  have B5 := hide (show Blk W5 g 77 #[.slice (some ⟨b, off, none⟩) ln lc, .slice sA sn sc, .slice qA qn qc, .int .i64 d0, .int .i64 s0, .int .i64 r0, .int .i64 f0, .int .i64 i0, .int .i64 k0, .int .i64 l0, .int .i64 t0, .int .i64 lo0, .int .i64 hi0, .int .i64 a0, .int .i64 x0, .int .i64 y0, .int .i64 z0, ch, asd, arr, .int .i64 beg, st, .int .i64 en, ld, .int .i64 t, .int .i64 (x), .bool false, .bool true, .int .i64 (at_ + buf)] from by rw [h5]; exact B4.out)
  clear h5 c0 c4 c5 c20 c21 c24 c25 c26 c27 c28 f20' f21' f24' f25' f26' f27' f28'
  have c0 := B5.out.cell 0
  have c4 := B5.out.cell 4
  have c5 := B5.out.cell 5
  have c20 := B5.out.cell 20
  have c21 := B5.out.cell 21
  have c24 := B5.out.cell 24
  have c25 := B5.out.cell 25
  have c26 := B5.out.cell 26
  have c27 := B5.out.cell 27
  have c28 := B5.out.cell 28
  have f20' := B5.out.frozen 20
  have f21' := B5.out.frozen 21
  have f24' := B5.out.frozen 24
  have f25' := B5.out.frozen 25
  have f26' := B5.out.frozen 26
  have f27' := B5.out.frozen 27
  have f28' := B5.out.frozen 28
  go_quiet (fail)
  go_wp2_with fail
  refine gen_bod fun W6 h6 => ?_
  have T6 := hide (show Tw w W6 g none from by rw [h6]; (repeat' (first | (with_reducible exact T5.out) | (with_reducible refine Tw.drew ?_) | (with_reducible refine Tw.drewN ?_ _))))
  have B6 := hide (show Blk W6 g 77 #[.slice (some ⟨b, off, none⟩) ln lc, .slice sA sn sc, .slice qA qn qc, .int .i64 d0, .int .i64 s0, .int .i64 r0, .int .i64 f0, .int .i64 i0, .int .i64 k0, .int .i64 l0, .int .i64 t0, .int .i64 lo0, .int .i64 hi0, .int .i64 a0, .int .i64 x0, .int .i64 y0, .int .i64 z0, ch, asd, arr, .int .i64 beg, st, .int .i64 en, ld, .int .i64 t, .int .i64 (x), .bool false, .bool true, .int .i64 (at_ + buf)] from by rw [h6]; exact B5.out)
  clear h6
  go_end0
  exact ⟨st, rfl, B6.out, HO.out.tw T6.out (fun e => by have := (HO.out.lt g e).1; omega) (fun _ _ h => by cases h), T6.out.more _, .inl rfl⟩
set_option linter.unusedSimpArgs false in
set_option linter.unusedVariables false in
set_option maxRecDepth 100000 in
set_option maxHeartbeats 8000000 in
theorem came_c3 (h : Blk w g 77 #[.slice lA ln lc, .slice sA sn sc, .slice qA qn qc, .int .i64 d0, .int .i64 s0, .int .i64 r0, .int .i64 f0, .int .i64 i0, .int .i64 k0, .int .i64 l0, .int .i64 t0, .int .i64 lo0, .int .i64 hi0, .int .i64 a0, .int .i64 x0, .int .i64 y0, .int .i64 z0, ch, asd, arr, .int .i64 beg, st, .int .i64 en, ld, .int .i64 at_, .int .i64 buf, .bool false, .bool true, .int .i64 stl]) (hL : At w 1 e64 lA ln lc L) {n : Nat} (hn : n < ln) (ha : 0 ≤ at_ ∧ at_ ≤ 1000000000000000000) (hb : 0 ≤ buf ∧ buf ≤ 1000000000000) (hx : 0 ≤ L.getD n 0 ∧ L.getD n 0 ≤ 1000000000) {t : Int} (ht : at_ ≤ t ∧ t ≤ 1000000000000000000) {sts : List (Int × Int)} (hLg : ∀ a, lA = some a → a.block < g) (hO : Own w B 91 2 e2 st sts) (hB : g < B) (hBw : B ≤ w.heap.size) (hsl : sts.length ≤ 1000) (hc : stl < at_) :
    Calls Tryd.prog 31 #[.pointer (some ⟨g, 0, none⟩), .int .i64 (n : Int), .int .i64 t] w (CamGives w g B lA ln lc sA sn sc qA qn qc d0 s0 r0 f0 i0 k0 l0 t0 lo0 hi0 a0 x0 y0 z0 ch asd arr st ld en (camT s0 r0 (L.getD n 0) t (decide (n + 1 = L.length)) ⟨at_, buf, false, true, stl, beg, sts⟩)) := by
  have HL := hide hL
  have HLN := hide hL.len
  have hbn := hL.bound
  have HO := hide hO
  obtain ⟨b, off, rfl, _⟩ := hL.addr (by omega)
  have H := hide h
  have c0 := h.cell 0
  have c4 := h.cell 4
  have c5 := h.cell 5
  have c20 := h.cell 20
  have c21 := h.cell 21
  have c24 := h.cell 24
  have c25 := h.cell 25
  have c26 := h.cell 26
  have c27 := h.cell 27
  have c28 := h.cell 28
  have f20 := h.frozen 20
  have f24 := h.frozen 24
  have f25 := h.frozen 25
  have f26 := h.frozen 26
  have f27 := h.frozen 27
  have f28 := h.frozen 28
  have HE := hide (fun (W : World) (hW : Tw w W g none) => (hL.tw hW (fun a ha => ⟨by have := hLg a ha; omega, by simp⟩)).num hn)
  clear h hL hO hLg
  obtain ⟨ha1, ha2⟩ := ha
  obtain ⟨hb1, hb2⟩ := hb
  obtain ⟨hx1, hx2⟩ := hx
  obtain ⟨ht1, ht2⟩ := ht
  generalize L.getD n 0 = x at *
  have j0 : (0 : Int) ≤ (n : Int) := by omega
  have j1 : (n : Int) < (ln : Int) := by omega
  have hlast : Hid (decide (n + 1 = L.length) = decide (n + 1 = ln)) := hide (by rw [HLN.out])
  have HVY : Hid (r0 ≤ (buf + x) ∨ decide (n + 1 = L.length) = true → camT s0 r0 x t (decide (n + 1 = L.length)) ⟨at_, buf, false, true, stl, beg, sts⟩ = ⟨t, buf + x, true, true, stl, beg, sts ++ [(stl, t)]⟩) := hide (fun hq => by
    generalize decide (n + 1 = L.length) = la at *
    unfold camT landT drainT passT
    cases la <;> grind)
  have HVN : Hid (¬ r0 ≤ (buf + x) → decide (n + 1 = L.length) = false → camT s0 r0 x t (decide (n + 1 = L.length)) ⟨at_, buf, false, true, stl, beg, sts⟩ = ⟨t, buf + x, false, true, stl, beg, sts⟩) := hide (fun hq1 hq2 => by
    rw [hq2]
    unfold camT landT drainT passT
    grind)
  by_cases q1 : r0 ≤ buf + x
  · have hv := HVY.out (.inl q1)
    rw [hv]
    clear hv HVY HVN
    have T0 := hide (Tw.refl w g none)
    have B0 := H
    go_enter Tryd.func31, Tryd.ntmps31
    go_wp2_with fail
    go_quiet (fail)
    go_wp2_with fail
    have v2 : decide (at_ ≤ stl) = false := by simp; omega
    refine gen_wpC fun W1 h1 => ?_
    have T1 := hide (show Tw w W1 g none from by rw [h1]; (repeat' (first | (with_reducible exact T0.out) | (with_reducible refine Tw.drew ?_) | (with_reducible refine Tw.drewN ?_ _) | (with_reducible refine Tw.trans ?_ (Tw.set_ _ _ _ _ _)))))
    have B1 := hide (show Blk W1 g 77 #[.slice (some ⟨b, off, none⟩) ln lc, .slice sA sn sc, .slice qA qn qc, .int .i64 d0, .int .i64 s0, .int .i64 r0, .int .i64 f0, .int .i64 i0, .int .i64 k0, .int .i64 l0, .int .i64 t0, .int .i64 lo0, .int .i64 hi0, .int .i64 a0, .int .i64 x0, .int .i64 y0, .int .i64 z0, ch, asd, arr, .int .i64 beg, st, .int .i64 en, ld, .int .i64 at_, .int .i64 buf, .bool false, .bool true, .int .i64 stl] from by rw [h1]; exact B0.out)
    clear h1 c0 c4 c5 c20 c21 c24 c25 c26 c27 c28 f20 f24 f25 f26 f27 f28
    have c0 := B1.out.cell 0
    have c4 := B1.out.cell 4
    have c5 := B1.out.cell 5
    have c20 := B1.out.cell 20
    have c21 := B1.out.cell 21
    have c24 := B1.out.cell 24
    have c25 := B1.out.cell 25
    have c26 := B1.out.cell 26
    have c27 := B1.out.cell 27
    have c28 := B1.out.cell 28
    have f20' := B1.out.frozen 20
    have f21' := B1.out.frozen 21
    have f24' := B1.out.frozen 24
    have f25' := B1.out.frozen 25
    have f26' := B1.out.frozen 26
    have f27' := B1.out.frozen 27
    have f28' := B1.out.frozen 28
    go_quiet (fail)
    go_upto_region 7 with (fail)
    refine gen_wpC fun W3 h3 => ?_
    have T3 := hide (show Tw w W3 g none from by rw [h3]; (repeat' (first | (with_reducible exact T1.out) | (with_reducible refine Tw.drew ?_) | (with_reducible refine Tw.drewN ?_ _) | (with_reducible refine Tw.trans ?_ (Tw.set_ _ _ _ _ _)))))
    have B3 := hide (show Blk W3 g 77 #[.slice (some ⟨b, off, none⟩) ln lc, .slice sA sn sc, .slice qA qn qc, .int .i64 d0, .int .i64 s0, .int .i64 r0, .int .i64 f0, .int .i64 i0, .int .i64 k0, .int .i64 l0, .int .i64 t0, .int .i64 lo0, .int .i64 hi0, .int .i64 a0, .int .i64 x0, .int .i64 y0, .int .i64 z0, ch, asd, arr, .int .i64 beg, st, .int .i64 en, ld, .int .i64 t, .int .i64 buf, .bool false, .bool true, .int .i64 stl] from by rw [h3]; exact (B1.out.set_ 24 _))
    clear h3 c0 c4 c5 c20 c21 c24 c25 c26 c27 c28 f20' f21' f24' f25' f26' f27' f28'
    have c0 := B3.out.cell 0
    have c4 := B3.out.cell 4
    have c5 := B3.out.cell 5
    have c20 := B3.out.cell 20
    have c21 := B3.out.cell 21
    have c24 := B3.out.cell 24
    have c25 := B3.out.cell 25
    have c26 := B3.out.cell 26
    have c27 := B3.out.cell 27
    have c28 := B3.out.cell 28
    have f20' := B3.out.frozen 20
    have f21' := B3.out.frozen 21
    have f24' := B3.out.frozen 24
    have f25' := B3.out.frozen 25
    have f26' := B3.out.frozen 26
    have f27' := B3.out.frozen 27
    have f28' := B3.out.frozen 28
    have e0 := HE.out W3 T3.out
    clear v2
    have v3 : IntKind.i64.wrap (buf + x) = buf + x := by rw [IntKind.wrap_i64]; omega
    go_region
    go_upto_region 8 with (fail)
    refine gen_wpC fun W4 h4 => ?_
    have T4 := hide (show Tw w W4 g none from by rw [h4]; (repeat' (first | (with_reducible exact T3.out) | (with_reducible refine Tw.drew ?_) | (with_reducible refine Tw.drewN ?_ _) | (with_reducible refine Tw.trans ?_ (Tw.set_ _ _ _ _ _)))))
    have B4 := hide (show Blk W4 g 77 #[.slice (some ⟨b, off, none⟩) ln lc, .slice sA sn sc, .slice qA qn qc, .int .i64 d0, .int .i64 s0, .int .i64 r0, .int .i64 f0, .int .i64 i0, .int .i64 k0, .int .i64 l0, .int .i64 t0, .int .i64 lo0, .int .i64 hi0, .int .i64 a0, .int .i64 x0, .int .i64 y0, .int .i64 z0, ch, asd, arr, .int .i64 beg, st, .int .i64 en, ld, .int .i64 t, .int .i64 (buf + x), .bool false, .bool true, .int .i64 (stl)] from by rw [h4]; exact (B3.out.set_ 25 _))
    clear h4 c0 c4 c5 c20 c21 c24 c25 c26 c27 c28 f20' f21' f24' f25' f26' f27' f28' e0
    have c0 := B4.out.cell 0
    have c4 := B4.out.cell 4
    have c5 := B4.out.cell 5
    have c20 := B4.out.cell 20
    have c21 := B4.out.cell 21
    have c24 := B4.out.cell 24
    have c25 := B4.out.cell 25
    have c26 := B4.out.cell 26
    have c27 := B4.out.cell 27
    have c28 := B4.out.cell 28
    have f20' := B4.out.frozen 20
    have f21' := B4.out.frozen 21
    have f24' := B4.out.frozen 24
    have f25' := B4.out.frozen 25
    have f26' := B4.out.frozen 26
    have f27' := B4.out.frozen 27
    have f28' := B4.out.frozen 28
    clear v3
    go_wp2_with fail
    go_quiet (fail)
    go_wp2_with fail
    refine gen_wpC fun W5 h5 => ?_
    have T5 := hide (show Tw w W5 g none from by rw [h5]; (repeat' (first | (with_reducible exact T4.out) | (with_reducible refine Tw.drew ?_) | (with_reducible refine Tw.drewN ?_ _) | (with_reducible refine Tw.trans ?_ (Tw.set_ _ _ _ _ _)))))
    have B5 := hide (show Blk W5 g 77 #[.slice (some ⟨b, off, none⟩) ln lc, .slice sA sn sc, .slice qA qn qc, .int .i64 d0, .int .i64 s0, .int .i64 r0, .int .i64 f0, .int .i64 i0, .int .i64 k0, .int .i64 l0, .int .i64 t0, .int .i64 lo0, .int .i64 hi0, .int .i64 a0, .int .i64 x0, .int .i64 y0, .int .i64 z0, ch, asd, arr, .int .i64 beg, st, .int .i64 en, ld, .int .i64 t, .int .i64 (buf + x), .bool false, .bool true, .int .i64 (stl)] from by rw [h5]; exact B4.out)
    clear h5 c0 c4 c5 c20 c21 c24 c25 c26 c27 c28 f20' f21' f24' f25' f26' f27' f28'
    have c0 := B5.out.cell 0
    have c4 := B5.out.cell 4
    have c5 := B5.out.cell 5
    have c20 := B5.out.cell 20
    have c21 := B5.out.cell 21
    have c24 := B5.out.cell 24
    have c25 := B5.out.cell 25
    have c26 := B5.out.cell 26
    have c27 := B5.out.cell 27
    have c28 := B5.out.cell 28
    have f20' := B5.out.frozen 20
    have f21' := B5.out.frozen 21
    have f24' := B5.out.frozen 24
    have f25' := B5.out.frozen 25
    have f26' := B5.out.frozen 26
    have f27' := B5.out.frozen 27
    have f28' := B5.out.frozen 28
    go_quiet (fail)
    go_upto_region 14 with (fail)
    refine gen_wpC fun W6 h6 => ?_
    have T6 := hide (show Tw w W6 g none from by rw [h6]; (repeat' (first | (with_reducible exact T5.out) | (with_reducible refine Tw.drew ?_) | (with_reducible refine Tw.drewN ?_ _) | (with_reducible refine Tw.trans ?_ (Tw.set_ _ _ _ _ _)))))
    have B6 := hide (show Blk W6 g 77 #[.slice (some ⟨b, off, none⟩) ln lc, .slice sA sn sc, .slice qA qn qc, .int .i64 d0, .int .i64 s0, .int .i64 r0, .int .i64 f0, .int .i64 i0, .int .i64 k0, .int .i64 l0, .int .i64 t0, .int .i64 lo0, .int .i64 hi0, .int .i64 a0, .int .i64 x0, .int .i64 y0, .int .i64 z0, ch, asd, arr, .int .i64 beg, st, .int .i64 en, ld, .int .i64 t, .int .i64 (buf + x), .bool true, .bool true, .int .i64 (stl)] from by rw [h6]; exact (B5.out.set_ 26 _))
    clear h6 c0 c4 c5 c20 c21 c24 c25 c26 c27 c28 f20' f21' f24' f25' f26' f27' f28'
    have c0 := B6.out.cell 0
    have c4 := B6.out.cell 4
    have c5 := B6.out.cell 5
    have c20 := B6.out.cell 20
    have c21 := B6.out.cell 21
    have c24 := B6.out.cell 24
    have c25 := B6.out.cell 25
    have c26 := B6.out.cell 26
    have c27 := B6.out.cell 27
    have c28 := B6.out.cell 28
    have f20' := B6.out.frozen 20
    have f21' := B6.out.frozen 21
    have f24' := B6.out.frozen 24
    have f25' := B6.out.frozen 25
    have f26' := B6.out.frozen 26
    have f27' := B6.out.frozen 27
    have f28' := B6.out.frozen 28
    clear c0 c4 c5 c20 c21 c24 c25 c26 c27 c28 f20' f21' f24' f25' f26' f27' f28'
    obtain ⟨i9, hi9, hz0, hz1, hz2⟩ := info_parts Tryd.info91
    have HOk := hide (HO.out.tw T6.out (fun e => by have := (HO.out.lt g e).1; omega) (fun _ _ h => by cases h))
    have HC9 : Hid (CamS g st (stl) W6) := hide ⟨B6.out.cell 21, B6.out.cell 28⟩
    have hC9 := HC9.out.ext (Ext.drew W6)
    have S1 : Hid (sts.length + 1 ≤ maxLen) := hide (by unfold maxLen; omega)
    have S2 : Hid ((sts.length + 1) * 16 ≤ 140737488355328) := hide (by omega)
    have HBW : Hid (B ≤ W6.heap.size) := hide (Nat.le_trans hBw T6.out.size)
    refine region_z (S := CamS g st (stl)) 14 (by kernel_rfl) ?_
    refine AnyZ.take (i := 0) (oi := _) (v := ?_) rfl rfl (by kernel_rfl) (by kernel_rfl) (by kernel_rfl) (by kernel_rfl) (by kernel_rfl) (by kernel_rfl) (fun _ _ _ h => h) (Or.inl ⟨by rfl, ?_⟩) hC9 ?_
    rotate_left
    · intro W hW; obtain ⟨s1, s2⟩ := hW; first | (go_simp; done) | (go_simp; with_reducible rfl)
    simp only [Act.put, setIfInBounds_toArray, set_cons_zero, set_cons_succ]
    refine AnyZ.take (i := 1) (oi := _) (v := ?_) rfl rfl (by kernel_rfl) (by kernel_rfl) (by kernel_rfl) (by kernel_rfl) (by kernel_rfl) (by kernel_rfl) (fun _ _ _ h => h) (Or.inl ⟨by rfl, ?_⟩) hC9 ?_
    rotate_left
    · intro W hW; obtain ⟨s1, s2⟩ := hW; first | (go_simp; done) | (go_simp; with_reducible rfl)
    simp only [Act.put, setIfInBounds_toArray, set_cons_zero, set_cons_succ]
    refine AnyZ.take (i := 2) (oi := _) (v := ?_) rfl rfl (by kernel_rfl) (by kernel_rfl) (by kernel_rfl) (by kernel_rfl) (by kernel_rfl) (by kernel_rfl) (fun _ _ _ h => h) (Or.inl ⟨by rfl, ?_⟩) hC9 ?_
    rotate_left
    · intro W hW; obtain ⟨s1, s2⟩ := hW; first | (go_simp; done) | (go_simp; with_reducible rfl)
    simp only [Act.put, setIfInBounds_toArray, set_cons_zero, set_cons_succ]
    refine AnyZ.take (i := 3) (oi := _) (v := ?_) rfl rfl (by kernel_rfl) (by kernel_rfl) (by kernel_rfl) (by kernel_rfl) (by kernel_rfl) (by kernel_rfl) (fun _ _ _ h => h) (Or.inl ⟨by rfl, ?_⟩) hC9 ?_
    rotate_left
    · intro W hW; obtain ⟨s1, s2⟩ := hW; first | (go_simp; done) | (go_simp; with_reducible rfl)
    simp only [Act.put, setIfInBounds_toArray, set_cons_zero, set_cons_succ]
    refine AnyZ.take (i := 4) (oi := _) (v := ?_) rfl rfl (by kernel_rfl) (by kernel_rfl) (by kernel_rfl) (by kernel_rfl) (by kernel_rfl) (by kernel_rfl) (fun _ _ _ h => h) (Or.inl ⟨by rfl, ?_⟩) hC9 ?_
    rotate_left
    · intro W hW; obtain ⟨s1, s2⟩ := hW; first | (go_simp; done) | (go_simp; with_reducible rfl)
    simp only [Act.put, setIfInBounds_toArray, set_cons_zero, set_cons_succ]
    refine AnyZ.take (i := 5) (oi := _) (v := ?_) rfl rfl (by kernel_rfl) (by kernel_rfl) (by kernel_rfl) (by kernel_rfl) (by kernel_rfl) (by kernel_rfl) (fun _ _ _ h => h) (Or.inl ⟨by rfl, ?_⟩) hC9 ?_
    rotate_left
    · intro W hW; obtain ⟨s1, s2⟩ := hW; first | (go_simp; done) | (go_simp; with_reducible rfl)
    simp only [Act.put, setIfInBounds_toArray, set_cons_zero, set_cons_succ]
    refine AnyZ.take (i := 6) (oi := _) (v := ?_) rfl rfl (by kernel_rfl) (by kernel_rfl) (by kernel_rfl) (by kernel_rfl) (by kernel_rfl) (by kernel_rfl) (fun _ _ _ h => h) (Or.inl ⟨by rfl, ?_⟩) hC9 ?_
    rotate_left
    · intro W hW; obtain ⟨s1, s2⟩ := hW; first | (go_simp; done) | (go_simp; with_reducible rfl)
    simp only [Act.put, setIfInBounds_toArray, set_cons_zero, set_cons_succ]
    refine AnyZ.take (i := 7) (oi := _) (v := ?_) rfl rfl (by kernel_rfl) (by kernel_rfl) (by kernel_rfl) (by kernel_rfl) (by kernel_rfl) (by kernel_rfl) (fun _ _ _ h => h) (Or.inl ⟨by rfl, ?_⟩) hC9 ?_
    rotate_left
    · intro W hW; obtain ⟨s1, s2⟩ := hW; first | (go_simp; done) | (go_simp; with_reducible rfl)
    simp only [Act.put, setIfInBounds_toArray, set_cons_zero, set_cons_succ]
    refine AnyZ.take (i := 8) (oi := _) (v := ?_) rfl rfl (by kernel_rfl) (by kernel_rfl) (by kernel_rfl) (by kernel_rfl) (by kernel_rfl) (by kernel_rfl) (fun _ _ _ h => h) (Or.inl ⟨by rfl, ?_⟩) hC9 ?_
    rotate_left
    · intro W hW; obtain ⟨s1, s2⟩ := hW; first | (go_simp; done) | (go_simp; with_reducible rfl)
    simp only [Act.put, setIfInBounds_toArray, set_cons_zero, set_cons_succ]
    refine AnyZ.take (i := 9) (oi := _) (v := ?_) rfl rfl (by kernel_rfl) (by kernel_rfl) (by kernel_rfl) (by kernel_rfl) (by kernel_rfl) (by kernel_rfl) (fun _ _ _ h => h) (Or.inl ⟨by rfl, ?_⟩) hC9 ?_
    rotate_left
    · intro W hW; obtain ⟨s1, s2⟩ := hW; first | (go_simp; done) | (go_simp; with_reducible rfl)
    simp only [Act.put, setIfInBounds_toArray, set_cons_zero, set_cons_succ]
    refine AnyZ.take (i := 10) (oi := _) (v := ?_) rfl rfl (by kernel_rfl) (by kernel_rfl) (by kernel_rfl) (by kernel_rfl) (by kernel_rfl) (by kernel_rfl) (fun _ _ _ h => h) (Or.inl ⟨by rfl, ?_⟩) hC9 ?_
    rotate_left
    · intro W hW; obtain ⟨s1, s2⟩ := hW; first | (go_simp; done) | (go_simp; with_reducible rfl)
    simp only [Act.put, setIfInBounds_toArray, set_cons_zero, set_cons_succ]
    refine AnyZ.take (i := 11) (oi := _) (v := ?_) rfl rfl (by kernel_rfl) (by kernel_rfl) (by kernel_rfl) (by kernel_rfl) (by kernel_rfl) (by kernel_rfl) (fun _ _ _ h => h) (Or.inl ⟨by rfl, ?_⟩) hC9 ?_
    rotate_left
    · intro W hW; obtain ⟨s1, s2⟩ := hW; first | (go_simp; done) | (go_simp; with_reducible rfl)
    simp only [Act.put, setIfInBounds_toArray, set_cons_zero, set_cons_succ]
    refine AnyZ.step (i := 12) rfl (by kernel_rfl) (fun K hK => ?_)
    go_simp
    refine hK.out _ _ (fun _ => ?_) ?_
    · exact HC9.out.ext (by repeat' (first | (with_reducible first | exact Below.refl _ _ | assumption | refine below_drewN ?_ _ | refine Below.drew ?_ | refine ext_alloc ?_ _ | refine Below.setCell ?_ ?_ _) | go_size))
    clear hK K
    refine AnyZ.step (i := 13) rfl (by kernel_rfl) (fun K hK => ?_)
    refine step_append_at rfl _ _ 36 rfl B 91 i9 _ 16 Tryd.underlying36 hi9 hz0 hz1 hz2 rfl (by omega) len_e2 one_e2 _ _ (by rfl) (HOk.out.ext (by repeat' (first | (with_reducible first | exact Below.refl _ _ | assumption | refine below_drewN ?_ _ | refine Below.drew ?_ | refine ext_alloc ?_ _ | refine Below.setCell ?_ ?_ _) | go_size))) (some ⟨W6.heap.size, 0, none⟩) 1 1 [(stl, t)] (by simp [Act.eval]) ((At.pair1 W6 (stl) t _).ext (by repeat' (first | (with_reducible first | exact Below.refl _ _ | assumption | refine below_drewN ?_ _ | refine Below.drew ?_ | refine ext_alloc ?_ _ | refine Below.setCell ?_ ?_ _) | go_size))) S1.out S2.out (Nat.le_trans HBW.out (by simp)) ?_
    intro v7 w7 o7 g7 _ hob
    obtain ⟨A7, c7, hv7, _⟩ := o7.at_ len_e2
    rw [List.length_append] at hv7
    have hv7 : v7 = .slice A7 (sts.length + 1) c7 := hv7
    subst hv7
    have hno : some g ≠ st.ownBlock := fun e => by have := (HO.out.lt g e.symm).1; omega
    have X7 : Hid (CamS g st (stl) w7) := hide ⟨g7.cell (HC9.out.ext (by repeat' (first | (with_reducible first | exact Below.refl _ _ | assumption | refine below_drewN ?_ _ | refine Below.drew ?_ | refine ext_alloc ?_ _ | refine Below.setCell ?_ ?_ _) | go_size))).1 hno, g7.cell (HC9.out.ext (by repeat' (first | (with_reducible first | exact Below.refl _ _ | assumption | refine below_drewN ?_ _ | refine Below.drew ?_ | refine ext_alloc ?_ _ | refine Below.setCell ?_ ?_ _) | go_size))).2 hno⟩
    refine hK.out _ _ (fun _ => X7.out) ?_
    clear hK K
    simp only [Act.put, setIfInBounds_toArray, set_cons_zero, set_cons_succ]
    have B7 := hide ((B6.out.ext (show Ext W6 _ from (by repeat' (first | (with_reducible first | exact Below.refl _ _ | assumption | refine below_drewN ?_ _ | refine Below.drew ?_ | refine ext_alloc ?_ _ | refine Below.setCell ?_ ?_ _) | go_size)))).grown g7 hno)
    have T7 := hide ((T6.out.more st.ownBlock).trans ((Tw.of_ext (show Ext W6 _ from (by repeat' (first | (with_reducible first | exact Below.refl _ _ | assumption | refine below_drewN ?_ _ | refine Below.drew ?_ | refine ext_alloc ?_ _ | refine Below.setCell ?_ ?_ _) | go_size))) g st.ownBlock).trans (Tw.of_grown g7)))
    have O7 := hide o7
    have H7 : Hid ((Value.slice A7 (sts.length + 1) c7).ownBlock = st.ownBlock ∨ ∃ q, (Value.slice A7 (sts.length + 1) c7).ownBlock = some q ∧ w.heap.size ≤ q) := hide (by
      have hz7 := T6.out.size
      rcases hob with hob | hob
      · exact .inl hob
      · exact .inr ⟨_, hob, by simp; omega⟩)
    have c21 := B7.out.cell 21
    have f21 := B7.out.frozen 21
    clear o7 g7 hob hno hC9
    refine AnyZ.step (i := 14) rfl (by kernel_rfl) (fun K hK => ?_)
    go_simp
    refine hK.out _ _ (fun h => ?_) ?_
    · exact absurd (h.symm.trans (show _ = true by kernel_rfl)) (by simp)
    clear hK K
    refine AnyZ.step (i := 15) rfl (by kernel_rfl) (fun K hK => ?_)
    go_simp
    refine hK.out _ _ (fun h => ?_) ?_
    · exact absurd (h.symm.trans (show _ = true by kernel_rfl)) (by simp)
    clear hK K
    refine AnyZ.step (i := 16) rfl (by kernel_rfl) (fun K hK => ?_)
    go_simp
    refine hK.out _ _ (fun h => ?_) ?_
    · exact absurd (h.symm.trans (show _ = true by kernel_rfl)) (by simp)
    clear hK K
    refine AnyZ.step (i := 17) rfl (by kernel_rfl) (fun K hK => ?_)
    go_simp
    refine hK.out _ _ (fun h => ?_) ?_
    · exact absurd (h.symm.trans (show _ = true by kernel_rfl)) (by simp)
    clear hK K
    refine AnyZ.done (by kernel_rfl) ?_ _
    refine gen_blo fun W8 h8 => ?_
    have B8 := hide (show Blk W8 g 77 #[.slice (some ⟨b, off, none⟩) ln lc, .slice sA sn sc, .slice qA qn qc, .int .i64 d0, .int .i64 s0, .int .i64 r0, .int .i64 f0, .int .i64 i0, .int .i64 k0, .int .i64 l0, .int .i64 t0, .int .i64 lo0, .int .i64 hi0, .int .i64 a0, .int .i64 x0, .int .i64 y0, .int .i64 z0, ch, asd, arr, .int .i64 beg, .slice A7 (sts.length + 1) c7, .int .i64 en, ld, .int .i64 t, .int .i64 (buf + x), .bool true, .bool true, .int .i64 (stl)] from by rw [h8]; exact B7.out.set_ 21 _)
    have T8 := hide (show Tw w W8 g st.ownBlock from by rw [h8]; exact T7.out.trans (Tw.set_ _ _ _ _ _))
    have O8 := hide (show Own W8 B 91 2 e2 (.slice A7 (sts.length + 1) c7) _ from by rw [h8]; exact O7.out.kept (grown_set _ g 21 _) (.inr (fun e => by have := (O7.out.lt g e).1; omega)))
    clear h8 c21 f21
    go_wp2_with fail
    go_end0
    exact ⟨_, rfl, B8.out, O8.out, T8.out, H7.out⟩
  by_cases q2 : n + 1 = ln
  · have hv := HVY.out (.inr (by rw [hlast.out]; exact decide_eq_true q2))
    rw [hv]
    clear hv HVY HVN
    have q3 : ((n : Int) == (ln : Int) - 1) = true := by rw [beq_iff_eq]; omega
    have q4 : ¬ r0 ≤ buf + x := q1
    clear q2
    have T0 := hide (Tw.refl w g none)
    have B0 := H
    go_enter Tryd.func31, Tryd.ntmps31
    go_wp2_with fail
    go_quiet (fail)
    go_wp2_with fail
    have v2 : decide (at_ ≤ stl) = false := by simp; omega
    refine gen_wpC fun W1 h1 => ?_
    have T1 := hide (show Tw w W1 g none from by rw [h1]; (repeat' (first | (with_reducible exact T0.out) | (with_reducible refine Tw.drew ?_) | (with_reducible refine Tw.drewN ?_ _) | (with_reducible refine Tw.trans ?_ (Tw.set_ _ _ _ _ _)))))
    have B1 := hide (show Blk W1 g 77 #[.slice (some ⟨b, off, none⟩) ln lc, .slice sA sn sc, .slice qA qn qc, .int .i64 d0, .int .i64 s0, .int .i64 r0, .int .i64 f0, .int .i64 i0, .int .i64 k0, .int .i64 l0, .int .i64 t0, .int .i64 lo0, .int .i64 hi0, .int .i64 a0, .int .i64 x0, .int .i64 y0, .int .i64 z0, ch, asd, arr, .int .i64 beg, st, .int .i64 en, ld, .int .i64 at_, .int .i64 buf, .bool false, .bool true, .int .i64 stl] from by rw [h1]; exact B0.out)
    clear h1 c0 c4 c5 c20 c21 c24 c25 c26 c27 c28 f20 f24 f25 f26 f27 f28
    have c0 := B1.out.cell 0
    have c4 := B1.out.cell 4
    have c5 := B1.out.cell 5
    have c20 := B1.out.cell 20
    have c21 := B1.out.cell 21
    have c24 := B1.out.cell 24
    have c25 := B1.out.cell 25
    have c26 := B1.out.cell 26
    have c27 := B1.out.cell 27
    have c28 := B1.out.cell 28
    have f20' := B1.out.frozen 20
    have f21' := B1.out.frozen 21
    have f24' := B1.out.frozen 24
    have f25' := B1.out.frozen 25
    have f26' := B1.out.frozen 26
    have f27' := B1.out.frozen 27
    have f28' := B1.out.frozen 28
    go_quiet (fail)
    go_upto_region 7 with (fail)
    refine gen_wpC fun W3 h3 => ?_
    have T3 := hide (show Tw w W3 g none from by rw [h3]; (repeat' (first | (with_reducible exact T1.out) | (with_reducible refine Tw.drew ?_) | (with_reducible refine Tw.drewN ?_ _) | (with_reducible refine Tw.trans ?_ (Tw.set_ _ _ _ _ _)))))
    have B3 := hide (show Blk W3 g 77 #[.slice (some ⟨b, off, none⟩) ln lc, .slice sA sn sc, .slice qA qn qc, .int .i64 d0, .int .i64 s0, .int .i64 r0, .int .i64 f0, .int .i64 i0, .int .i64 k0, .int .i64 l0, .int .i64 t0, .int .i64 lo0, .int .i64 hi0, .int .i64 a0, .int .i64 x0, .int .i64 y0, .int .i64 z0, ch, asd, arr, .int .i64 beg, st, .int .i64 en, ld, .int .i64 t, .int .i64 buf, .bool false, .bool true, .int .i64 stl] from by rw [h3]; exact (B1.out.set_ 24 _))
    clear h3 c0 c4 c5 c20 c21 c24 c25 c26 c27 c28 f20' f21' f24' f25' f26' f27' f28'
    have c0 := B3.out.cell 0
    have c4 := B3.out.cell 4
    have c5 := B3.out.cell 5
    have c20 := B3.out.cell 20
    have c21 := B3.out.cell 21
    have c24 := B3.out.cell 24
    have c25 := B3.out.cell 25
    have c26 := B3.out.cell 26
    have c27 := B3.out.cell 27
    have c28 := B3.out.cell 28
    have f20' := B3.out.frozen 20
    have f21' := B3.out.frozen 21
    have f24' := B3.out.frozen 24
    have f25' := B3.out.frozen 25
    have f26' := B3.out.frozen 26
    have f27' := B3.out.frozen 27
    have f28' := B3.out.frozen 28
    have e0 := HE.out W3 T3.out
    clear v2
    have v3 : IntKind.i64.wrap (buf + x) = buf + x := by rw [IntKind.wrap_i64]; omega
    go_region
    go_upto_region 8 with (fail)
    refine gen_wpC fun W4 h4 => ?_
    have T4 := hide (show Tw w W4 g none from by rw [h4]; (repeat' (first | (with_reducible exact T3.out) | (with_reducible refine Tw.drew ?_) | (with_reducible refine Tw.drewN ?_ _) | (with_reducible refine Tw.trans ?_ (Tw.set_ _ _ _ _ _)))))
    have B4 := hide (show Blk W4 g 77 #[.slice (some ⟨b, off, none⟩) ln lc, .slice sA sn sc, .slice qA qn qc, .int .i64 d0, .int .i64 s0, .int .i64 r0, .int .i64 f0, .int .i64 i0, .int .i64 k0, .int .i64 l0, .int .i64 t0, .int .i64 lo0, .int .i64 hi0, .int .i64 a0, .int .i64 x0, .int .i64 y0, .int .i64 z0, ch, asd, arr, .int .i64 beg, st, .int .i64 en, ld, .int .i64 t, .int .i64 (buf + x), .bool false, .bool true, .int .i64 (stl)] from by rw [h4]; exact (B3.out.set_ 25 _))
    clear h4 c0 c4 c5 c20 c21 c24 c25 c26 c27 c28 f20' f21' f24' f25' f26' f27' f28' e0
    have c0 := B4.out.cell 0
    have c4 := B4.out.cell 4
    have c5 := B4.out.cell 5
    have c20 := B4.out.cell 20
    have c21 := B4.out.cell 21
    have c24 := B4.out.cell 24
    have c25 := B4.out.cell 25
    have c26 := B4.out.cell 26
    have c27 := B4.out.cell 27
    have c28 := B4.out.cell 28
    have f20' := B4.out.frozen 20
    have f21' := B4.out.frozen 21
    have f24' := B4.out.frozen 24
    have f25' := B4.out.frozen 25
    have f26' := B4.out.frozen 26
    have f27' := B4.out.frozen 27
    have f28' := B4.out.frozen 28
    clear v3
    go_wp2_with fail
    go_quiet (fail)
    go_wp2_with fail
    refine gen_wpC fun W5 h5 => ?_
    have T5 := hide (show Tw w W5 g none from by rw [h5]; (repeat' (first | (with_reducible exact T4.out) | (with_reducible refine Tw.drew ?_) | (with_reducible refine Tw.drewN ?_ _) | (with_reducible refine Tw.trans ?_ (Tw.set_ _ _ _ _ _)))))
    have B5 := hide (show Blk W5 g 77 #[.slice (some ⟨b, off, none⟩) ln lc, .slice sA sn sc, .slice qA qn qc, .int .i64 d0, .int .i64 s0, .int .i64 r0, .int .i64 f0, .int .i64 i0, .int .i64 k0, .int .i64 l0, .int .i64 t0, .int .i64 lo0, .int .i64 hi0, .int .i64 a0, .int .i64 x0, .int .i64 y0, .int .i64 z0, ch, asd, arr, .int .i64 beg, st, .int .i64 en, ld, .int .i64 t, .int .i64 (buf + x), .bool false, .bool true, .int .i64 (stl)] from by rw [h5]; exact B4.out)
    clear h5 c0 c4 c5 c20 c21 c24 c25 c26 c27 c28 f20' f21' f24' f25' f26' f27' f28'
    have c0 := B5.out.cell 0
    have c4 := B5.out.cell 4
    have c5 := B5.out.cell 5
    have c20 := B5.out.cell 20
    have c21 := B5.out.cell 21
    have c24 := B5.out.cell 24
    have c25 := B5.out.cell 25
    have c26 := B5.out.cell 26
    have c27 := B5.out.cell 27
    have c28 := B5.out.cell 28
    have f20' := B5.out.frozen 20
    have f21' := B5.out.frozen 21
    have f24' := B5.out.frozen 24
    have f25' := B5.out.frozen 25
    have f26' := B5.out.frozen 26
    have f27' := B5.out.frozen 27
    have f28' := B5.out.frozen 28
    go_quiet (fail)
    go_upto_region 14 with (fail)
    refine gen_wpC fun W6 h6 => ?_
    have T6 := hide (show Tw w W6 g none from by rw [h6]; (repeat' (first | (with_reducible exact T5.out) | (with_reducible refine Tw.drew ?_) | (with_reducible refine Tw.drewN ?_ _) | (with_reducible refine Tw.trans ?_ (Tw.set_ _ _ _ _ _)))))
    have B6 := hide (show Blk W6 g 77 #[.slice (some ⟨b, off, none⟩) ln lc, .slice sA sn sc, .slice qA qn qc, .int .i64 d0, .int .i64 s0, .int .i64 r0, .int .i64 f0, .int .i64 i0, .int .i64 k0, .int .i64 l0, .int .i64 t0, .int .i64 lo0, .int .i64 hi0, .int .i64 a0, .int .i64 x0, .int .i64 y0, .int .i64 z0, ch, asd, arr, .int .i64 beg, st, .int .i64 en, ld, .int .i64 t, .int .i64 (buf + x), .bool true, .bool true, .int .i64 (stl)] from by rw [h6]; exact (B5.out.set_ 26 _))
    clear h6 c0 c4 c5 c20 c21 c24 c25 c26 c27 c28 f20' f21' f24' f25' f26' f27' f28'
    have c0 := B6.out.cell 0
    have c4 := B6.out.cell 4
    have c5 := B6.out.cell 5
    have c20 := B6.out.cell 20
    have c21 := B6.out.cell 21
    have c24 := B6.out.cell 24
    have c25 := B6.out.cell 25
    have c26 := B6.out.cell 26
    have c27 := B6.out.cell 27
    have c28 := B6.out.cell 28
    have f20' := B6.out.frozen 20
    have f21' := B6.out.frozen 21
    have f24' := B6.out.frozen 24
    have f25' := B6.out.frozen 25
    have f26' := B6.out.frozen 26
    have f27' := B6.out.frozen 27
    have f28' := B6.out.frozen 28
    clear c0 c4 c5 c20 c21 c24 c25 c26 c27 c28 f20' f21' f24' f25' f26' f27' f28'
    obtain ⟨i9, hi9, hz0, hz1, hz2⟩ := info_parts Tryd.info91
    have HOk := hide (HO.out.tw T6.out (fun e => by have := (HO.out.lt g e).1; omega) (fun _ _ h => by cases h))
    have HC9 : Hid (CamS g st (stl) W6) := hide ⟨B6.out.cell 21, B6.out.cell 28⟩
    have hC9 := HC9.out.ext (Ext.drew W6)
    have S1 : Hid (sts.length + 1 ≤ maxLen) := hide (by unfold maxLen; omega)
    have S2 : Hid ((sts.length + 1) * 16 ≤ 140737488355328) := hide (by omega)
    have HBW : Hid (B ≤ W6.heap.size) := hide (Nat.le_trans hBw T6.out.size)
    refine region_z (S := CamS g st (stl)) 14 (by kernel_rfl) ?_
    refine AnyZ.take (i := 0) (oi := _) (v := ?_) rfl rfl (by kernel_rfl) (by kernel_rfl) (by kernel_rfl) (by kernel_rfl) (by kernel_rfl) (by kernel_rfl) (fun _ _ _ h => h) (Or.inl ⟨by rfl, ?_⟩) hC9 ?_
    rotate_left
    · intro W hW; obtain ⟨s1, s2⟩ := hW; first | (go_simp; done) | (go_simp; with_reducible rfl)
    simp only [Act.put, setIfInBounds_toArray, set_cons_zero, set_cons_succ]
    refine AnyZ.take (i := 1) (oi := _) (v := ?_) rfl rfl (by kernel_rfl) (by kernel_rfl) (by kernel_rfl) (by kernel_rfl) (by kernel_rfl) (by kernel_rfl) (fun _ _ _ h => h) (Or.inl ⟨by rfl, ?_⟩) hC9 ?_
    rotate_left
    · intro W hW; obtain ⟨s1, s2⟩ := hW; first | (go_simp; done) | (go_simp; with_reducible rfl)
    simp only [Act.put, setIfInBounds_toArray, set_cons_zero, set_cons_succ]
    refine AnyZ.take (i := 2) (oi := _) (v := ?_) rfl rfl (by kernel_rfl) (by kernel_rfl) (by kernel_rfl) (by kernel_rfl) (by kernel_rfl) (by kernel_rfl) (fun _ _ _ h => h) (Or.inl ⟨by rfl, ?_⟩) hC9 ?_
    rotate_left
    · intro W hW; obtain ⟨s1, s2⟩ := hW; first | (go_simp; done) | (go_simp; with_reducible rfl)
    simp only [Act.put, setIfInBounds_toArray, set_cons_zero, set_cons_succ]
    refine AnyZ.take (i := 3) (oi := _) (v := ?_) rfl rfl (by kernel_rfl) (by kernel_rfl) (by kernel_rfl) (by kernel_rfl) (by kernel_rfl) (by kernel_rfl) (fun _ _ _ h => h) (Or.inl ⟨by rfl, ?_⟩) hC9 ?_
    rotate_left
    · intro W hW; obtain ⟨s1, s2⟩ := hW; first | (go_simp; done) | (go_simp; with_reducible rfl)
    simp only [Act.put, setIfInBounds_toArray, set_cons_zero, set_cons_succ]
    refine AnyZ.take (i := 4) (oi := _) (v := ?_) rfl rfl (by kernel_rfl) (by kernel_rfl) (by kernel_rfl) (by kernel_rfl) (by kernel_rfl) (by kernel_rfl) (fun _ _ _ h => h) (Or.inl ⟨by rfl, ?_⟩) hC9 ?_
    rotate_left
    · intro W hW; obtain ⟨s1, s2⟩ := hW; first | (go_simp; done) | (go_simp; with_reducible rfl)
    simp only [Act.put, setIfInBounds_toArray, set_cons_zero, set_cons_succ]
    refine AnyZ.take (i := 5) (oi := _) (v := ?_) rfl rfl (by kernel_rfl) (by kernel_rfl) (by kernel_rfl) (by kernel_rfl) (by kernel_rfl) (by kernel_rfl) (fun _ _ _ h => h) (Or.inl ⟨by rfl, ?_⟩) hC9 ?_
    rotate_left
    · intro W hW; obtain ⟨s1, s2⟩ := hW; first | (go_simp; done) | (go_simp; with_reducible rfl)
    simp only [Act.put, setIfInBounds_toArray, set_cons_zero, set_cons_succ]
    refine AnyZ.take (i := 6) (oi := _) (v := ?_) rfl rfl (by kernel_rfl) (by kernel_rfl) (by kernel_rfl) (by kernel_rfl) (by kernel_rfl) (by kernel_rfl) (fun _ _ _ h => h) (Or.inl ⟨by rfl, ?_⟩) hC9 ?_
    rotate_left
    · intro W hW; obtain ⟨s1, s2⟩ := hW; first | (go_simp; done) | (go_simp; with_reducible rfl)
    simp only [Act.put, setIfInBounds_toArray, set_cons_zero, set_cons_succ]
    refine AnyZ.take (i := 7) (oi := _) (v := ?_) rfl rfl (by kernel_rfl) (by kernel_rfl) (by kernel_rfl) (by kernel_rfl) (by kernel_rfl) (by kernel_rfl) (fun _ _ _ h => h) (Or.inl ⟨by rfl, ?_⟩) hC9 ?_
    rotate_left
    · intro W hW; obtain ⟨s1, s2⟩ := hW; first | (go_simp; done) | (go_simp; with_reducible rfl)
    simp only [Act.put, setIfInBounds_toArray, set_cons_zero, set_cons_succ]
    refine AnyZ.take (i := 8) (oi := _) (v := ?_) rfl rfl (by kernel_rfl) (by kernel_rfl) (by kernel_rfl) (by kernel_rfl) (by kernel_rfl) (by kernel_rfl) (fun _ _ _ h => h) (Or.inl ⟨by rfl, ?_⟩) hC9 ?_
    rotate_left
    · intro W hW; obtain ⟨s1, s2⟩ := hW; first | (go_simp; done) | (go_simp; with_reducible rfl)
    simp only [Act.put, setIfInBounds_toArray, set_cons_zero, set_cons_succ]
    refine AnyZ.take (i := 9) (oi := _) (v := ?_) rfl rfl (by kernel_rfl) (by kernel_rfl) (by kernel_rfl) (by kernel_rfl) (by kernel_rfl) (by kernel_rfl) (fun _ _ _ h => h) (Or.inl ⟨by rfl, ?_⟩) hC9 ?_
    rotate_left
    · intro W hW; obtain ⟨s1, s2⟩ := hW; first | (go_simp; done) | (go_simp; with_reducible rfl)
    simp only [Act.put, setIfInBounds_toArray, set_cons_zero, set_cons_succ]
    refine AnyZ.take (i := 10) (oi := _) (v := ?_) rfl rfl (by kernel_rfl) (by kernel_rfl) (by kernel_rfl) (by kernel_rfl) (by kernel_rfl) (by kernel_rfl) (fun _ _ _ h => h) (Or.inl ⟨by rfl, ?_⟩) hC9 ?_
    rotate_left
    · intro W hW; obtain ⟨s1, s2⟩ := hW; first | (go_simp; done) | (go_simp; with_reducible rfl)
    simp only [Act.put, setIfInBounds_toArray, set_cons_zero, set_cons_succ]
    refine AnyZ.take (i := 11) (oi := _) (v := ?_) rfl rfl (by kernel_rfl) (by kernel_rfl) (by kernel_rfl) (by kernel_rfl) (by kernel_rfl) (by kernel_rfl) (fun _ _ _ h => h) (Or.inl ⟨by rfl, ?_⟩) hC9 ?_
    rotate_left
    · intro W hW; obtain ⟨s1, s2⟩ := hW; first | (go_simp; done) | (go_simp; with_reducible rfl)
    simp only [Act.put, setIfInBounds_toArray, set_cons_zero, set_cons_succ]
    refine AnyZ.step (i := 12) rfl (by kernel_rfl) (fun K hK => ?_)
    go_simp
    refine hK.out _ _ (fun _ => ?_) ?_
    · exact HC9.out.ext (by repeat' (first | (with_reducible first | exact Below.refl _ _ | assumption | refine below_drewN ?_ _ | refine Below.drew ?_ | refine ext_alloc ?_ _ | refine Below.setCell ?_ ?_ _) | go_size))
    clear hK K
    refine AnyZ.step (i := 13) rfl (by kernel_rfl) (fun K hK => ?_)
    refine step_append_at rfl _ _ 36 rfl B 91 i9 _ 16 Tryd.underlying36 hi9 hz0 hz1 hz2 rfl (by omega) len_e2 one_e2 _ _ (by rfl) (HOk.out.ext (by repeat' (first | (with_reducible first | exact Below.refl _ _ | assumption | refine below_drewN ?_ _ | refine Below.drew ?_ | refine ext_alloc ?_ _ | refine Below.setCell ?_ ?_ _) | go_size))) (some ⟨W6.heap.size, 0, none⟩) 1 1 [(stl, t)] (by simp [Act.eval]) ((At.pair1 W6 (stl) t _).ext (by repeat' (first | (with_reducible first | exact Below.refl _ _ | assumption | refine below_drewN ?_ _ | refine Below.drew ?_ | refine ext_alloc ?_ _ | refine Below.setCell ?_ ?_ _) | go_size))) S1.out S2.out (Nat.le_trans HBW.out (by simp)) ?_
    intro v7 w7 o7 g7 _ hob
    obtain ⟨A7, c7, hv7, _⟩ := o7.at_ len_e2
    rw [List.length_append] at hv7
    have hv7 : v7 = .slice A7 (sts.length + 1) c7 := hv7
    subst hv7
    have hno : some g ≠ st.ownBlock := fun e => by have := (HO.out.lt g e.symm).1; omega
    have X7 : Hid (CamS g st (stl) w7) := hide ⟨g7.cell (HC9.out.ext (by repeat' (first | (with_reducible first | exact Below.refl _ _ | assumption | refine below_drewN ?_ _ | refine Below.drew ?_ | refine ext_alloc ?_ _ | refine Below.setCell ?_ ?_ _) | go_size))).1 hno, g7.cell (HC9.out.ext (by repeat' (first | (with_reducible first | exact Below.refl _ _ | assumption | refine below_drewN ?_ _ | refine Below.drew ?_ | refine ext_alloc ?_ _ | refine Below.setCell ?_ ?_ _) | go_size))).2 hno⟩
    refine hK.out _ _ (fun _ => X7.out) ?_
    clear hK K
    simp only [Act.put, setIfInBounds_toArray, set_cons_zero, set_cons_succ]
    have B7 := hide ((B6.out.ext (show Ext W6 _ from (by repeat' (first | (with_reducible first | exact Below.refl _ _ | assumption | refine below_drewN ?_ _ | refine Below.drew ?_ | refine ext_alloc ?_ _ | refine Below.setCell ?_ ?_ _) | go_size)))).grown g7 hno)
    have T7 := hide ((T6.out.more st.ownBlock).trans ((Tw.of_ext (show Ext W6 _ from (by repeat' (first | (with_reducible first | exact Below.refl _ _ | assumption | refine below_drewN ?_ _ | refine Below.drew ?_ | refine ext_alloc ?_ _ | refine Below.setCell ?_ ?_ _) | go_size))) g st.ownBlock).trans (Tw.of_grown g7)))
    have O7 := hide o7
    have H7 : Hid ((Value.slice A7 (sts.length + 1) c7).ownBlock = st.ownBlock ∨ ∃ q, (Value.slice A7 (sts.length + 1) c7).ownBlock = some q ∧ w.heap.size ≤ q) := hide (by
      have hz7 := T6.out.size
      rcases hob with hob | hob
      · exact .inl hob
      · exact .inr ⟨_, hob, by simp; omega⟩)
    have c21 := B7.out.cell 21
    have f21 := B7.out.frozen 21
    clear o7 g7 hob hno hC9
    refine AnyZ.step (i := 14) rfl (by kernel_rfl) (fun K hK => ?_)
    go_simp
    refine hK.out _ _ (fun h => ?_) ?_
    · exact absurd (h.symm.trans (show _ = true by kernel_rfl)) (by simp)
    clear hK K
    refine AnyZ.step (i := 15) rfl (by kernel_rfl) (fun K hK => ?_)
    go_simp
    refine hK.out _ _ (fun h => ?_) ?_
    · exact absurd (h.symm.trans (show _ = true by kernel_rfl)) (by simp)
    clear hK K
    refine AnyZ.step (i := 16) rfl (by kernel_rfl) (fun K hK => ?_)
    go_simp
    refine hK.out _ _ (fun h => ?_) ?_
    · exact absurd (h.symm.trans (show _ = true by kernel_rfl)) (by simp)
    clear hK K
    refine AnyZ.step (i := 17) rfl (by kernel_rfl) (fun K hK => ?_)
    go_simp
    refine hK.out _ _ (fun h => ?_) ?_
    · exact absurd (h.symm.trans (show _ = true by kernel_rfl)) (by simp)
    clear hK K
    refine AnyZ.done (by kernel_rfl) ?_ _
    refine gen_blo fun W8 h8 => ?_
    have B8 := hide (show Blk W8 g 77 #[.slice (some ⟨b, off, none⟩) ln lc, .slice sA sn sc, .slice qA qn qc, .int .i64 d0, .int .i64 s0, .int .i64 r0, .int .i64 f0, .int .i64 i0, .int .i64 k0, .int .i64 l0, .int .i64 t0, .int .i64 lo0, .int .i64 hi0, .int .i64 a0, .int .i64 x0, .int .i64 y0, .int .i64 z0, ch, asd, arr, .int .i64 beg, .slice A7 (sts.length + 1) c7, .int .i64 en, ld, .int .i64 t, .int .i64 (buf + x), .bool true, .bool true, .int .i64 (stl)] from by rw [h8]; exact B7.out.set_ 21 _)
    have T8 := hide (show Tw w W8 g st.ownBlock from by rw [h8]; exact T7.out.trans (Tw.set_ _ _ _ _ _))
    have O8 := hide (show Own W8 B 91 2 e2 (.slice A7 (sts.length + 1) c7) _ from by rw [h8]; exact O7.out.kept (grown_set _ g 21 _) (.inr (fun e => by have := (O7.out.lt g e).1; omega)))
    clear h8 c21 f21
    go_wp2_with fail
    go_end0
    exact ⟨_, rfl, B8.out, O8.out, T8.out, H7.out⟩
  have hv := HVN.out q1 (by rw [hlast.out]; exact decide_eq_false q2)
  rw [hv]
  clear hv HVY HVN
  have q3 : ((n : Int) == (ln : Int) - 1) = false := by rw [beq_eq_false_iff_ne]; omega
  clear q2
  have T0 := hide (Tw.refl w g none)
  have B0 := H
  go_enter Tryd.func31, Tryd.ntmps31
  go_wp2_with fail
  go_quiet (fail)
  go_wp2_with fail
  have v2 : decide (at_ ≤ stl) = false := by simp; omega
  refine gen_wpC fun W1 h1 => ?_
  have T1 := hide (show Tw w W1 g none from by rw [h1]; (repeat' (first | (with_reducible exact T0.out) | (with_reducible refine Tw.drew ?_) | (with_reducible refine Tw.drewN ?_ _) | (with_reducible refine Tw.trans ?_ (Tw.set_ _ _ _ _ _)))))
  have B1 := hide (show Blk W1 g 77 #[.slice (some ⟨b, off, none⟩) ln lc, .slice sA sn sc, .slice qA qn qc, .int .i64 d0, .int .i64 s0, .int .i64 r0, .int .i64 f0, .int .i64 i0, .int .i64 k0, .int .i64 l0, .int .i64 t0, .int .i64 lo0, .int .i64 hi0, .int .i64 a0, .int .i64 x0, .int .i64 y0, .int .i64 z0, ch, asd, arr, .int .i64 beg, st, .int .i64 en, ld, .int .i64 at_, .int .i64 buf, .bool false, .bool true, .int .i64 stl] from by rw [h1]; exact B0.out)
  clear h1 c0 c4 c5 c20 c21 c24 c25 c26 c27 c28 f20 f24 f25 f26 f27 f28
  have c0 := B1.out.cell 0
  have c4 := B1.out.cell 4
  have c5 := B1.out.cell 5
  have c20 := B1.out.cell 20
  have c21 := B1.out.cell 21
  have c24 := B1.out.cell 24
  have c25 := B1.out.cell 25
  have c26 := B1.out.cell 26
  have c27 := B1.out.cell 27
  have c28 := B1.out.cell 28
  have f20' := B1.out.frozen 20
  have f21' := B1.out.frozen 21
  have f24' := B1.out.frozen 24
  have f25' := B1.out.frozen 25
  have f26' := B1.out.frozen 26
  have f27' := B1.out.frozen 27
  have f28' := B1.out.frozen 28
  go_quiet (fail)
  go_upto_region 7 with (fail)
  refine gen_wpC fun W3 h3 => ?_
  have T3 := hide (show Tw w W3 g none from by rw [h3]; (repeat' (first | (with_reducible exact T1.out) | (with_reducible refine Tw.drew ?_) | (with_reducible refine Tw.drewN ?_ _) | (with_reducible refine Tw.trans ?_ (Tw.set_ _ _ _ _ _)))))
  have B3 := hide (show Blk W3 g 77 #[.slice (some ⟨b, off, none⟩) ln lc, .slice sA sn sc, .slice qA qn qc, .int .i64 d0, .int .i64 s0, .int .i64 r0, .int .i64 f0, .int .i64 i0, .int .i64 k0, .int .i64 l0, .int .i64 t0, .int .i64 lo0, .int .i64 hi0, .int .i64 a0, .int .i64 x0, .int .i64 y0, .int .i64 z0, ch, asd, arr, .int .i64 beg, st, .int .i64 en, ld, .int .i64 t, .int .i64 buf, .bool false, .bool true, .int .i64 stl] from by rw [h3]; exact (B1.out.set_ 24 _))
  clear h3 c0 c4 c5 c20 c21 c24 c25 c26 c27 c28 f20' f21' f24' f25' f26' f27' f28'
  have c0 := B3.out.cell 0
  have c4 := B3.out.cell 4
  have c5 := B3.out.cell 5
  have c20 := B3.out.cell 20
  have c21 := B3.out.cell 21
  have c24 := B3.out.cell 24
  have c25 := B3.out.cell 25
  have c26 := B3.out.cell 26
  have c27 := B3.out.cell 27
  have c28 := B3.out.cell 28
  have f20' := B3.out.frozen 20
  have f21' := B3.out.frozen 21
  have f24' := B3.out.frozen 24
  have f25' := B3.out.frozen 25
  have f26' := B3.out.frozen 26
  have f27' := B3.out.frozen 27
  have f28' := B3.out.frozen 28
  have e0 := HE.out W3 T3.out
  clear v2
  have v3 : IntKind.i64.wrap (buf + x) = buf + x := by rw [IntKind.wrap_i64]; omega
  go_region
  go_upto_region 8 with (fail)
  refine gen_wpC fun W4 h4 => ?_
  have T4 := hide (show Tw w W4 g none from by rw [h4]; (repeat' (first | (with_reducible exact T3.out) | (with_reducible refine Tw.drew ?_) | (with_reducible refine Tw.drewN ?_ _) | (with_reducible refine Tw.trans ?_ (Tw.set_ _ _ _ _ _)))))
  have B4 := hide (show Blk W4 g 77 #[.slice (some ⟨b, off, none⟩) ln lc, .slice sA sn sc, .slice qA qn qc, .int .i64 d0, .int .i64 s0, .int .i64 r0, .int .i64 f0, .int .i64 i0, .int .i64 k0, .int .i64 l0, .int .i64 t0, .int .i64 lo0, .int .i64 hi0, .int .i64 a0, .int .i64 x0, .int .i64 y0, .int .i64 z0, ch, asd, arr, .int .i64 beg, st, .int .i64 en, ld, .int .i64 t, .int .i64 (buf + x), .bool false, .bool true, .int .i64 (stl)] from by rw [h4]; exact (B3.out.set_ 25 _))
  clear h4 c0 c4 c5 c20 c21 c24 c25 c26 c27 c28 f20' f21' f24' f25' f26' f27' f28' e0
  have c0 := B4.out.cell 0
  have c4 := B4.out.cell 4
  have c5 := B4.out.cell 5
  have c20 := B4.out.cell 20
  have c21 := B4.out.cell 21
  have c24 := B4.out.cell 24
  have c25 := B4.out.cell 25
  have c26 := B4.out.cell 26
  have c27 := B4.out.cell 27
  have c28 := B4.out.cell 28
  have f20' := B4.out.frozen 20
  have f21' := B4.out.frozen 21
  have f24' := B4.out.frozen 24
  have f25' := B4.out.frozen 25
  have f26' := B4.out.frozen 26
  have f27' := B4.out.frozen 27
  have f28' := B4.out.frozen 28
  clear v3
  go_wp2_with fail
  go_quiet (fail)
  go_wp2_with fail
  refine gen_wpC fun W5 h5 => ?_
  have T5 := hide (show Tw w W5 g none from by rw [h5]; (repeat' (first | (with_reducible exact T4.out) | (with_reducible refine Tw.drew ?_) | (with_reducible refine Tw.drewN ?_ _) | (with_reducible refine Tw.trans ?_ (Tw.set_ _ _ _ _ _)))))
  have B5 := hide (show Blk W5 g 77 #[.slice (some ⟨b, off, none⟩) ln lc, .slice sA sn sc, .slice qA qn qc, .int .i64 d0, .int .i64 s0, .int .i64 r0, .int .i64 f0, .int .i64 i0, .int .i64 k0, .int .i64 l0, .int .i64 t0, .int .i64 lo0, .int .i64 hi0, .int .i64 a0, .int .i64 x0, .int .i64 y0, .int .i64 z0, ch, asd, arr, .int .i64 beg, st, .int .i64 en, ld, .int .i64 t, .int .i64 (buf + x), .bool false, .bool true, .int .i64 (stl)] from by rw [h5]; exact B4.out)
  clear h5 c0 c4 c5 c20 c21 c24 c25 c26 c27 c28 f20' f21' f24' f25' f26' f27' f28'
  have c0 := B5.out.cell 0
  have c4 := B5.out.cell 4
  have c5 := B5.out.cell 5
  have c20 := B5.out.cell 20
  have c21 := B5.out.cell 21
  have c24 := B5.out.cell 24
  have c25 := B5.out.cell 25
  have c26 := B5.out.cell 26
  have c27 := B5.out.cell 27
  have c28 := B5.out.cell 28
  have f20' := B5.out.frozen 20
  have f21' := B5.out.frozen 21
  have f24' := B5.out.frozen 24
  have f25' := B5.out.frozen 25
  have f26' := B5.out.frozen 26
  have f27' := B5.out.frozen 27
  have f28' := B5.out.frozen 28
  go_quiet (fail)
  go_wp2_with fail
  refine gen_bod fun W6 h6 => ?_
  have T6 := hide (show Tw w W6 g none from by rw [h6]; (repeat' (first | (with_reducible exact T5.out) | (with_reducible refine Tw.drew ?_) | (with_reducible refine Tw.drewN ?_ _))))
  have B6 := hide (show Blk W6 g 77 #[.slice (some ⟨b, off, none⟩) ln lc, .slice sA sn sc, .slice qA qn qc, .int .i64 d0, .int .i64 s0, .int .i64 r0, .int .i64 f0, .int .i64 i0, .int .i64 k0, .int .i64 l0, .int .i64 t0, .int .i64 lo0, .int .i64 hi0, .int .i64 a0, .int .i64 x0, .int .i64 y0, .int .i64 z0, ch, asd, arr, .int .i64 beg, st, .int .i64 en, ld, .int .i64 t, .int .i64 (buf + x), .bool false, .bool true, .int .i64 (stl)] from by rw [h6]; exact B5.out)
  clear h6
  go_end0
  exact ⟨st, rfl, B6.out, HO.out.tw T6.out (fun e => by have := (HO.out.lt g e).1; omega) (fun _ _ h => by cases h), T6.out.more _, .inl rfl⟩
set_option linter.unusedSimpArgs false in
set_option linter.unusedVariables false in
set_option maxRecDepth 100000 in
set_option maxHeartbeats 8000000 in
theorem came_c4 (h : Blk w g 77 #[.slice lA ln lc, .slice sA sn sc, .slice qA qn qc, .int .i64 d0, .int .i64 s0, .int .i64 r0, .int .i64 f0, .int .i64 i0, .int .i64 k0, .int .i64 l0, .int .i64 t0, .int .i64 lo0, .int .i64 hi0, .int .i64 a0, .int .i64 x0, .int .i64 y0, .int .i64 z0, ch, asd, arr, .int .i64 beg, st, .int .i64 en, ld, .int .i64 at_, .int .i64 buf, .bool false, .bool false, .int .i64 stl]) (hL : At w 1 e64 lA ln lc L) {n : Nat} (hn : n < ln) (ha : 0 ≤ at_ ∧ at_ ≤ 1000000000000000000) (hb : 0 ≤ buf ∧ buf ≤ 1000000000000) (hx : 0 ≤ L.getD n 0 ∧ L.getD n 0 ≤ 1000000000) {t : Int} (ht : at_ ≤ t ∧ t ≤ 1000000000000000000) {sts : List (Int × Int)} (hLg : ∀ a, lA = some a → a.block < g) (hO : Own w B 91 2 e2 st sts) (hB : g < B) (hBw : B ≤ w.heap.size) (hsl : sts.length ≤ 1000) :
    Calls Tryd.prog 31 #[.pointer (some ⟨g, 0, none⟩), .int .i64 (n : Int), .int .i64 t] w (CamGives w g B lA ln lc sA sn sc qA qn qc d0 s0 r0 f0 i0 k0 l0 t0 lo0 hi0 a0 x0 y0 z0 ch asd arr st ld en (camT s0 r0 (L.getD n 0) t (decide (n + 1 = L.length)) ⟨at_, buf, false, false, stl, beg, sts⟩)) := by
  have HL := hide hL
  have HLN := hide hL.len
  have hbn := hL.bound
  have HO := hide hO
  obtain ⟨b, off, rfl, _⟩ := hL.addr (by omega)
  have H := hide h
  have c0 := h.cell 0
  have c4 := h.cell 4
  have c5 := h.cell 5
  have c20 := h.cell 20
  have c21 := h.cell 21
  have c24 := h.cell 24
  have c25 := h.cell 25
  have c26 := h.cell 26
  have c27 := h.cell 27
  have c28 := h.cell 28
  have f20 := h.frozen 20
  have f24 := h.frozen 24
  have f25 := h.frozen 25
  have f26 := h.frozen 26
  have f27 := h.frozen 27
  have f28 := h.frozen 28
  have HE := hide (fun (W : World) (hW : Tw w W g none) => (hL.tw hW (fun a ha => ⟨by have := hLg a ha; omega, by simp⟩)).num hn)
  clear h hL hO hLg
  obtain ⟨ha1, ha2⟩ := ha
  obtain ⟨hb1, hb2⟩ := hb
  obtain ⟨hx1, hx2⟩ := hx
  obtain ⟨ht1, ht2⟩ := ht
  generalize L.getD n 0 = x at *
  have j0 : (0 : Int) ≤ (n : Int) := by omega
  have j1 : (n : Int) < (ln : Int) := by omega
  have hlast : Hid (decide (n + 1 = L.length) = decide (n + 1 = ln)) := hide (by rw [HLN.out])
  have HVY : Hid (s0 ≤ (buf + x) ∨ decide (n + 1 = L.length) = true → camT s0 r0 x t (decide (n + 1 = L.length)) ⟨at_, buf, false, false, stl, beg, sts⟩ = ⟨t, buf + x, true, true, stl, t, sts⟩) := hide (fun hq => by
    generalize decide (n + 1 = L.length) = la at *
    unfold camT landT drainT passT
    cases la <;> grind)
  have HVN : Hid (¬ s0 ≤ (buf + x) → decide (n + 1 = L.length) = false → camT s0 r0 x t (decide (n + 1 = L.length)) ⟨at_, buf, false, false, stl, beg, sts⟩ = ⟨t, buf + x, false, false, stl, beg, sts⟩) := hide (fun hq1 hq2 => by
    rw [hq2]
    unfold camT landT drainT passT
    grind)
  by_cases q1 : s0 ≤ buf + x
  · have hv := HVY.out (.inl q1)
    rw [hv]
    clear hv HVY HVN
    have T0 := hide (Tw.refl w g none)
    have B0 := H
    go_enter Tryd.func31, Tryd.ntmps31
    go_wp2_with fail
    go_quiet (fail)
    go_wp2_with fail
    refine gen_wpC fun W1 h1 => ?_
    have T1 := hide (show Tw w W1 g none from by rw [h1]; (repeat' (first | (with_reducible exact T0.out) | (with_reducible refine Tw.drew ?_) | (with_reducible refine Tw.drewN ?_ _) | (with_reducible refine Tw.trans ?_ (Tw.set_ _ _ _ _ _)))))
    have B1 := hide (show Blk W1 g 77 #[.slice (some ⟨b, off, none⟩) ln lc, .slice sA sn sc, .slice qA qn qc, .int .i64 d0, .int .i64 s0, .int .i64 r0, .int .i64 f0, .int .i64 i0, .int .i64 k0, .int .i64 l0, .int .i64 t0, .int .i64 lo0, .int .i64 hi0, .int .i64 a0, .int .i64 x0, .int .i64 y0, .int .i64 z0, ch, asd, arr, .int .i64 beg, st, .int .i64 en, ld, .int .i64 at_, .int .i64 buf, .bool false, .bool false, .int .i64 stl] from by rw [h1]; exact B0.out)
    clear h1 c0 c4 c5 c20 c21 c24 c25 c26 c27 c28 f20 f24 f25 f26 f27 f28
    have c0 := B1.out.cell 0
    have c4 := B1.out.cell 4
    have c5 := B1.out.cell 5
    have c20 := B1.out.cell 20
    have c21 := B1.out.cell 21
    have c24 := B1.out.cell 24
    have c25 := B1.out.cell 25
    have c26 := B1.out.cell 26
    have c27 := B1.out.cell 27
    have c28 := B1.out.cell 28
    have f20' := B1.out.frozen 20
    have f21' := B1.out.frozen 21
    have f24' := B1.out.frozen 24
    have f25' := B1.out.frozen 25
    have f26' := B1.out.frozen 26
    have f27' := B1.out.frozen 27
    have f28' := B1.out.frozen 28
    go_quiet (fail)
    go_upto_region 7 with (fail)
    refine gen_wpC fun W3 h3 => ?_
    have T3 := hide (show Tw w W3 g none from by rw [h3]; (repeat' (first | (with_reducible exact T1.out) | (with_reducible refine Tw.drew ?_) | (with_reducible refine Tw.drewN ?_ _) | (with_reducible refine Tw.trans ?_ (Tw.set_ _ _ _ _ _)))))
    have B3 := hide (show Blk W3 g 77 #[.slice (some ⟨b, off, none⟩) ln lc, .slice sA sn sc, .slice qA qn qc, .int .i64 d0, .int .i64 s0, .int .i64 r0, .int .i64 f0, .int .i64 i0, .int .i64 k0, .int .i64 l0, .int .i64 t0, .int .i64 lo0, .int .i64 hi0, .int .i64 a0, .int .i64 x0, .int .i64 y0, .int .i64 z0, ch, asd, arr, .int .i64 beg, st, .int .i64 en, ld, .int .i64 t, .int .i64 buf, .bool false, .bool false, .int .i64 stl] from by rw [h3]; exact (B1.out.set_ 24 _))
    clear h3 c0 c4 c5 c20 c21 c24 c25 c26 c27 c28 f20' f21' f24' f25' f26' f27' f28'
    have c0 := B3.out.cell 0
    have c4 := B3.out.cell 4
    have c5 := B3.out.cell 5
    have c20 := B3.out.cell 20
    have c21 := B3.out.cell 21
    have c24 := B3.out.cell 24
    have c25 := B3.out.cell 25
    have c26 := B3.out.cell 26
    have c27 := B3.out.cell 27
    have c28 := B3.out.cell 28
    have f20' := B3.out.frozen 20
    have f21' := B3.out.frozen 21
    have f24' := B3.out.frozen 24
    have f25' := B3.out.frozen 25
    have f26' := B3.out.frozen 26
    have f27' := B3.out.frozen 27
    have f28' := B3.out.frozen 28
    have e0 := HE.out W3 T3.out
    have v3 : IntKind.i64.wrap (buf + x) = buf + x := by rw [IntKind.wrap_i64]; omega
    go_region
    go_upto_region 8 with (fail)
    refine gen_wpC fun W4 h4 => ?_
    have T4 := hide (show Tw w W4 g none from by rw [h4]; (repeat' (first | (with_reducible exact T3.out) | (with_reducible refine Tw.drew ?_) | (with_reducible refine Tw.drewN ?_ _) | (with_reducible refine Tw.trans ?_ (Tw.set_ _ _ _ _ _)))))
    have B4 := hide (show Blk W4 g 77 #[.slice (some ⟨b, off, none⟩) ln lc, .slice sA sn sc, .slice qA qn qc, .int .i64 d0, .int .i64 s0, .int .i64 r0, .int .i64 f0, .int .i64 i0, .int .i64 k0, .int .i64 l0, .int .i64 t0, .int .i64 lo0, .int .i64 hi0, .int .i64 a0, .int .i64 x0, .int .i64 y0, .int .i64 z0, ch, asd, arr, .int .i64 beg, st, .int .i64 en, ld, .int .i64 t, .int .i64 (buf + x), .bool false, .bool false, .int .i64 stl] from by rw [h4]; exact (B3.out.set_ 25 _))
    clear h4 c0 c4 c5 c20 c21 c24 c25 c26 c27 c28 f20' f21' f24' f25' f26' f27' f28' e0
    have c0 := B4.out.cell 0
    have c4 := B4.out.cell 4
    have c5 := B4.out.cell 5
    have c20 := B4.out.cell 20
    have c21 := B4.out.cell 21
    have c24 := B4.out.cell 24
    have c25 := B4.out.cell 25
    have c26 := B4.out.cell 26
    have c27 := B4.out.cell 27
    have c28 := B4.out.cell 28
    have f20' := B4.out.frozen 20
    have f21' := B4.out.frozen 21
    have f24' := B4.out.frozen 24
    have f25' := B4.out.frozen 25
    have f26' := B4.out.frozen 26
    have f27' := B4.out.frozen 27
    have f28' := B4.out.frozen 28
    clear v3
    go_wp2_with fail
    refine gen_wpC fun W5 h5 => ?_
    have T5 := hide (show Tw w W5 g none from by rw [h5]; (repeat' (first | (with_reducible exact T4.out) | (with_reducible refine Tw.drew ?_) | (with_reducible refine Tw.drewN ?_ _) | (with_reducible refine Tw.trans ?_ (Tw.set_ _ _ _ _ _)))))
    have B5 := hide (show Blk W5 g 77 #[.slice (some ⟨b, off, none⟩) ln lc, .slice sA sn sc, .slice qA qn qc, .int .i64 d0, .int .i64 s0, .int .i64 r0, .int .i64 f0, .int .i64 i0, .int .i64 k0, .int .i64 l0, .int .i64 t0, .int .i64 lo0, .int .i64 hi0, .int .i64 a0, .int .i64 x0, .int .i64 y0, .int .i64 z0, ch, asd, arr, .int .i64 beg, st, .int .i64 en, ld, .int .i64 t, .int .i64 (buf + x), .bool false, .bool false, .int .i64 stl] from by rw [h5]; exact B4.out)
    clear h5 c0 c4 c5 c20 c21 c24 c25 c26 c27 c28 f20' f21' f24' f25' f26' f27' f28'
    have c0 := B5.out.cell 0
    have c4 := B5.out.cell 4
    have c5 := B5.out.cell 5
    have c20 := B5.out.cell 20
    have c21 := B5.out.cell 21
    have c24 := B5.out.cell 24
    have c25 := B5.out.cell 25
    have c26 := B5.out.cell 26
    have c27 := B5.out.cell 27
    have c28 := B5.out.cell 28
    have f20' := B5.out.frozen 20
    have f21' := B5.out.frozen 21
    have f24' := B5.out.frozen 24
    have f25' := B5.out.frozen 25
    have f26' := B5.out.frozen 26
    have f27' := B5.out.frozen 27
    have f28' := B5.out.frozen 28
    go_quiet (fail)
    go_wp2_with fail
    refine gen_bod fun W6 h6 => ?_
    have T6 := hide (show Tw w W6 g none from by rw [h6]; (repeat' (first | (with_reducible exact T5.out) | (with_reducible refine Tw.drew ?_) | (with_reducible refine Tw.drewN ?_ _) | (with_reducible refine Tw.trans ?_ (Tw.set_ _ _ _ _ _)))))
    have B6 := hide (show Blk W6 g 77 #[.slice (some ⟨b, off, none⟩) ln lc, .slice sA sn sc, .slice qA qn qc, .int .i64 d0, .int .i64 s0, .int .i64 r0, .int .i64 f0, .int .i64 i0, .int .i64 k0, .int .i64 l0, .int .i64 t0, .int .i64 lo0, .int .i64 hi0, .int .i64 a0, .int .i64 x0, .int .i64 y0, .int .i64 z0, ch, asd, arr, .int .i64 t, st, .int .i64 en, ld, .int .i64 t, .int .i64 (buf + x), .bool true, .bool true, .int .i64 stl] from by rw [h6]; exact (((B5.out.set_ 26 _).set_ 27 _).set_ 20 _))
    clear h6
    go_end0
    exact ⟨st, rfl, B6.out, HO.out.tw T6.out (fun e => by have := (HO.out.lt g e).1; omega) (fun _ _ h => by cases h), T6.out.more _, .inl rfl⟩
  by_cases q2 : n + 1 = ln
  · have hv := HVY.out (.inr (by rw [hlast.out]; exact decide_eq_true q2))
    rw [hv]
    clear hv HVY HVN
    have q3 : ((n : Int) == (ln : Int) - 1) = true := by rw [beq_iff_eq]; omega
    have q4 : ¬ s0 ≤ buf + x := q1
    clear q2
    have T0 := hide (Tw.refl w g none)
    have B0 := H
    go_enter Tryd.func31, Tryd.ntmps31
    go_wp2_with fail
    go_quiet (fail)
    go_wp2_with fail
    refine gen_wpC fun W1 h1 => ?_
    have T1 := hide (show Tw w W1 g none from by rw [h1]; (repeat' (first | (with_reducible exact T0.out) | (with_reducible refine Tw.drew ?_) | (with_reducible refine Tw.drewN ?_ _) | (with_reducible refine Tw.trans ?_ (Tw.set_ _ _ _ _ _)))))
    have B1 := hide (show Blk W1 g 77 #[.slice (some ⟨b, off, none⟩) ln lc, .slice sA sn sc, .slice qA qn qc, .int .i64 d0, .int .i64 s0, .int .i64 r0, .int .i64 f0, .int .i64 i0, .int .i64 k0, .int .i64 l0, .int .i64 t0, .int .i64 lo0, .int .i64 hi0, .int .i64 a0, .int .i64 x0, .int .i64 y0, .int .i64 z0, ch, asd, arr, .int .i64 beg, st, .int .i64 en, ld, .int .i64 at_, .int .i64 buf, .bool false, .bool false, .int .i64 stl] from by rw [h1]; exact B0.out)
    clear h1 c0 c4 c5 c20 c21 c24 c25 c26 c27 c28 f20 f24 f25 f26 f27 f28
    have c0 := B1.out.cell 0
    have c4 := B1.out.cell 4
    have c5 := B1.out.cell 5
    have c20 := B1.out.cell 20
    have c21 := B1.out.cell 21
    have c24 := B1.out.cell 24
    have c25 := B1.out.cell 25
    have c26 := B1.out.cell 26
    have c27 := B1.out.cell 27
    have c28 := B1.out.cell 28
    have f20' := B1.out.frozen 20
    have f21' := B1.out.frozen 21
    have f24' := B1.out.frozen 24
    have f25' := B1.out.frozen 25
    have f26' := B1.out.frozen 26
    have f27' := B1.out.frozen 27
    have f28' := B1.out.frozen 28
    go_quiet (fail)
    go_upto_region 7 with (fail)
    refine gen_wpC fun W3 h3 => ?_
    have T3 := hide (show Tw w W3 g none from by rw [h3]; (repeat' (first | (with_reducible exact T1.out) | (with_reducible refine Tw.drew ?_) | (with_reducible refine Tw.drewN ?_ _) | (with_reducible refine Tw.trans ?_ (Tw.set_ _ _ _ _ _)))))
    have B3 := hide (show Blk W3 g 77 #[.slice (some ⟨b, off, none⟩) ln lc, .slice sA sn sc, .slice qA qn qc, .int .i64 d0, .int .i64 s0, .int .i64 r0, .int .i64 f0, .int .i64 i0, .int .i64 k0, .int .i64 l0, .int .i64 t0, .int .i64 lo0, .int .i64 hi0, .int .i64 a0, .int .i64 x0, .int .i64 y0, .int .i64 z0, ch, asd, arr, .int .i64 beg, st, .int .i64 en, ld, .int .i64 t, .int .i64 buf, .bool false, .bool false, .int .i64 stl] from by rw [h3]; exact (B1.out.set_ 24 _))
    clear h3 c0 c4 c5 c20 c21 c24 c25 c26 c27 c28 f20' f21' f24' f25' f26' f27' f28'
    have c0 := B3.out.cell 0
    have c4 := B3.out.cell 4
    have c5 := B3.out.cell 5
    have c20 := B3.out.cell 20
    have c21 := B3.out.cell 21
    have c24 := B3.out.cell 24
    have c25 := B3.out.cell 25
    have c26 := B3.out.cell 26
    have c27 := B3.out.cell 27
    have c28 := B3.out.cell 28
    have f20' := B3.out.frozen 20
    have f21' := B3.out.frozen 21
    have f24' := B3.out.frozen 24
    have f25' := B3.out.frozen 25
    have f26' := B3.out.frozen 26
    have f27' := B3.out.frozen 27
    have f28' := B3.out.frozen 28
    have e0 := HE.out W3 T3.out
    have v3 : IntKind.i64.wrap (buf + x) = buf + x := by rw [IntKind.wrap_i64]; omega
    go_region
    go_upto_region 8 with (fail)
    refine gen_wpC fun W4 h4 => ?_
    have T4 := hide (show Tw w W4 g none from by rw [h4]; (repeat' (first | (with_reducible exact T3.out) | (with_reducible refine Tw.drew ?_) | (with_reducible refine Tw.drewN ?_ _) | (with_reducible refine Tw.trans ?_ (Tw.set_ _ _ _ _ _)))))
    have B4 := hide (show Blk W4 g 77 #[.slice (some ⟨b, off, none⟩) ln lc, .slice sA sn sc, .slice qA qn qc, .int .i64 d0, .int .i64 s0, .int .i64 r0, .int .i64 f0, .int .i64 i0, .int .i64 k0, .int .i64 l0, .int .i64 t0, .int .i64 lo0, .int .i64 hi0, .int .i64 a0, .int .i64 x0, .int .i64 y0, .int .i64 z0, ch, asd, arr, .int .i64 beg, st, .int .i64 en, ld, .int .i64 t, .int .i64 (buf + x), .bool false, .bool false, .int .i64 stl] from by rw [h4]; exact (B3.out.set_ 25 _))
    clear h4 c0 c4 c5 c20 c21 c24 c25 c26 c27 c28 f20' f21' f24' f25' f26' f27' f28' e0
    have c0 := B4.out.cell 0
    have c4 := B4.out.cell 4
    have c5 := B4.out.cell 5
    have c20 := B4.out.cell 20
    have c21 := B4.out.cell 21
    have c24 := B4.out.cell 24
    have c25 := B4.out.cell 25
    have c26 := B4.out.cell 26
    have c27 := B4.out.cell 27
    have c28 := B4.out.cell 28
    have f20' := B4.out.frozen 20
    have f21' := B4.out.frozen 21
    have f24' := B4.out.frozen 24
    have f25' := B4.out.frozen 25
    have f26' := B4.out.frozen 26
    have f27' := B4.out.frozen 27
    have f28' := B4.out.frozen 28
    clear v3
    go_wp2_with fail
    refine gen_wpC fun W5 h5 => ?_
    have T5 := hide (show Tw w W5 g none from by rw [h5]; (repeat' (first | (with_reducible exact T4.out) | (with_reducible refine Tw.drew ?_) | (with_reducible refine Tw.drewN ?_ _) | (with_reducible refine Tw.trans ?_ (Tw.set_ _ _ _ _ _)))))
    have B5 := hide (show Blk W5 g 77 #[.slice (some ⟨b, off, none⟩) ln lc, .slice sA sn sc, .slice qA qn qc, .int .i64 d0, .int .i64 s0, .int .i64 r0, .int .i64 f0, .int .i64 i0, .int .i64 k0, .int .i64 l0, .int .i64 t0, .int .i64 lo0, .int .i64 hi0, .int .i64 a0, .int .i64 x0, .int .i64 y0, .int .i64 z0, ch, asd, arr, .int .i64 beg, st, .int .i64 en, ld, .int .i64 t, .int .i64 (buf + x), .bool false, .bool false, .int .i64 stl] from by rw [h5]; exact B4.out)
    clear h5 c0 c4 c5 c20 c21 c24 c25 c26 c27 c28 f20' f21' f24' f25' f26' f27' f28'
    have c0 := B5.out.cell 0
    have c4 := B5.out.cell 4
    have c5 := B5.out.cell 5
    have c20 := B5.out.cell 20
    have c21 := B5.out.cell 21
    have c24 := B5.out.cell 24
    have c25 := B5.out.cell 25
    have c26 := B5.out.cell 26
    have c27 := B5.out.cell 27
    have c28 := B5.out.cell 28
    have f20' := B5.out.frozen 20
    have f21' := B5.out.frozen 21
    have f24' := B5.out.frozen 24
    have f25' := B5.out.frozen 25
    have f26' := B5.out.frozen 26
    have f27' := B5.out.frozen 27
    have f28' := B5.out.frozen 28
    go_quiet (fail)
    go_wp2_with fail
    refine gen_bod fun W6 h6 => ?_
    have T6 := hide (show Tw w W6 g none from by rw [h6]; (repeat' (first | (with_reducible exact T5.out) | (with_reducible refine Tw.drew ?_) | (with_reducible refine Tw.drewN ?_ _) | (with_reducible refine Tw.trans ?_ (Tw.set_ _ _ _ _ _)))))
    have B6 := hide (show Blk W6 g 77 #[.slice (some ⟨b, off, none⟩) ln lc, .slice sA sn sc, .slice qA qn qc, .int .i64 d0, .int .i64 s0, .int .i64 r0, .int .i64 f0, .int .i64 i0, .int .i64 k0, .int .i64 l0, .int .i64 t0, .int .i64 lo0, .int .i64 hi0, .int .i64 a0, .int .i64 x0, .int .i64 y0, .int .i64 z0, ch, asd, arr, .int .i64 t, st, .int .i64 en, ld, .int .i64 t, .int .i64 (buf + x), .bool true, .bool true, .int .i64 stl] from by rw [h6]; exact (((B5.out.set_ 26 _).set_ 27 _).set_ 20 _))
    clear h6
    go_end0
    exact ⟨st, rfl, B6.out, HO.out.tw T6.out (fun e => by have := (HO.out.lt g e).1; omega) (fun _ _ h => by cases h), T6.out.more _, .inl rfl⟩
  have hv := HVN.out q1 (by rw [hlast.out]; exact decide_eq_false q2)
  rw [hv]
  clear hv HVY HVN
  have q3 : ((n : Int) == (ln : Int) - 1) = false := by rw [beq_eq_false_iff_ne]; omega
  clear q2
  have T0 := hide (Tw.refl w g none)
  have B0 := H
  go_enter Tryd.func31, Tryd.ntmps31
  go_wp2_with fail
  go_quiet (fail)
  go_wp2_with fail
  refine gen_wpC fun W1 h1 => ?_
  have T1 := hide (show Tw w W1 g none from by rw [h1]; (repeat' (first | (with_reducible exact T0.out) | (with_reducible refine Tw.drew ?_) | (with_reducible refine Tw.drewN ?_ _) | (with_reducible refine Tw.trans ?_ (Tw.set_ _ _ _ _ _)))))
  have B1 := hide (show Blk W1 g 77 #[.slice (some ⟨b, off, none⟩) ln lc, .slice sA sn sc, .slice qA qn qc, .int .i64 d0, .int .i64 s0, .int .i64 r0, .int .i64 f0, .int .i64 i0, .int .i64 k0, .int .i64 l0, .int .i64 t0, .int .i64 lo0, .int .i64 hi0, .int .i64 a0, .int .i64 x0, .int .i64 y0, .int .i64 z0, ch, asd, arr, .int .i64 beg, st, .int .i64 en, ld, .int .i64 at_, .int .i64 buf, .bool false, .bool false, .int .i64 stl] from by rw [h1]; exact B0.out)
  clear h1 c0 c4 c5 c20 c21 c24 c25 c26 c27 c28 f20 f24 f25 f26 f27 f28
  have c0 := B1.out.cell 0
  have c4 := B1.out.cell 4
  have c5 := B1.out.cell 5
  have c20 := B1.out.cell 20
  have c21 := B1.out.cell 21
  have c24 := B1.out.cell 24
  have c25 := B1.out.cell 25
  have c26 := B1.out.cell 26
  have c27 := B1.out.cell 27
  have c28 := B1.out.cell 28
  have f20' := B1.out.frozen 20
  have f21' := B1.out.frozen 21
  have f24' := B1.out.frozen 24
  have f25' := B1.out.frozen 25
  have f26' := B1.out.frozen 26
  have f27' := B1.out.frozen 27
  have f28' := B1.out.frozen 28
  go_quiet (fail)
  go_upto_region 7 with (fail)
  refine gen_wpC fun W3 h3 => ?_
  have T3 := hide (show Tw w W3 g none from by rw [h3]; (repeat' (first | (with_reducible exact T1.out) | (with_reducible refine Tw.drew ?_) | (with_reducible refine Tw.drewN ?_ _) | (with_reducible refine Tw.trans ?_ (Tw.set_ _ _ _ _ _)))))
  have B3 := hide (show Blk W3 g 77 #[.slice (some ⟨b, off, none⟩) ln lc, .slice sA sn sc, .slice qA qn qc, .int .i64 d0, .int .i64 s0, .int .i64 r0, .int .i64 f0, .int .i64 i0, .int .i64 k0, .int .i64 l0, .int .i64 t0, .int .i64 lo0, .int .i64 hi0, .int .i64 a0, .int .i64 x0, .int .i64 y0, .int .i64 z0, ch, asd, arr, .int .i64 beg, st, .int .i64 en, ld, .int .i64 t, .int .i64 buf, .bool false, .bool false, .int .i64 stl] from by rw [h3]; exact (B1.out.set_ 24 _))
  clear h3 c0 c4 c5 c20 c21 c24 c25 c26 c27 c28 f20' f21' f24' f25' f26' f27' f28'
  have c0 := B3.out.cell 0
  have c4 := B3.out.cell 4
  have c5 := B3.out.cell 5
  have c20 := B3.out.cell 20
  have c21 := B3.out.cell 21
  have c24 := B3.out.cell 24
  have c25 := B3.out.cell 25
  have c26 := B3.out.cell 26
  have c27 := B3.out.cell 27
  have c28 := B3.out.cell 28
  have f20' := B3.out.frozen 20
  have f21' := B3.out.frozen 21
  have f24' := B3.out.frozen 24
  have f25' := B3.out.frozen 25
  have f26' := B3.out.frozen 26
  have f27' := B3.out.frozen 27
  have f28' := B3.out.frozen 28
  have e0 := HE.out W3 T3.out
  have v3 : IntKind.i64.wrap (buf + x) = buf + x := by rw [IntKind.wrap_i64]; omega
  go_region
  go_upto_region 8 with (fail)
  refine gen_wpC fun W4 h4 => ?_
  have T4 := hide (show Tw w W4 g none from by rw [h4]; (repeat' (first | (with_reducible exact T3.out) | (with_reducible refine Tw.drew ?_) | (with_reducible refine Tw.drewN ?_ _) | (with_reducible refine Tw.trans ?_ (Tw.set_ _ _ _ _ _)))))
  have B4 := hide (show Blk W4 g 77 #[.slice (some ⟨b, off, none⟩) ln lc, .slice sA sn sc, .slice qA qn qc, .int .i64 d0, .int .i64 s0, .int .i64 r0, .int .i64 f0, .int .i64 i0, .int .i64 k0, .int .i64 l0, .int .i64 t0, .int .i64 lo0, .int .i64 hi0, .int .i64 a0, .int .i64 x0, .int .i64 y0, .int .i64 z0, ch, asd, arr, .int .i64 beg, st, .int .i64 en, ld, .int .i64 t, .int .i64 (buf + x), .bool false, .bool false, .int .i64 stl] from by rw [h4]; exact (B3.out.set_ 25 _))
  clear h4 c0 c4 c5 c20 c21 c24 c25 c26 c27 c28 f20' f21' f24' f25' f26' f27' f28' e0
  have c0 := B4.out.cell 0
  have c4 := B4.out.cell 4
  have c5 := B4.out.cell 5
  have c20 := B4.out.cell 20
  have c21 := B4.out.cell 21
  have c24 := B4.out.cell 24
  have c25 := B4.out.cell 25
  have c26 := B4.out.cell 26
  have c27 := B4.out.cell 27
  have c28 := B4.out.cell 28
  have f20' := B4.out.frozen 20
  have f21' := B4.out.frozen 21
  have f24' := B4.out.frozen 24
  have f25' := B4.out.frozen 25
  have f26' := B4.out.frozen 26
  have f27' := B4.out.frozen 27
  have f28' := B4.out.frozen 28
  clear v3
  go_wp2_with fail
  refine gen_wpC fun W5 h5 => ?_
  have T5 := hide (show Tw w W5 g none from by rw [h5]; (repeat' (first | (with_reducible exact T4.out) | (with_reducible refine Tw.drew ?_) | (with_reducible refine Tw.drewN ?_ _) | (with_reducible refine Tw.trans ?_ (Tw.set_ _ _ _ _ _)))))
  have B5 := hide (show Blk W5 g 77 #[.slice (some ⟨b, off, none⟩) ln lc, .slice sA sn sc, .slice qA qn qc, .int .i64 d0, .int .i64 s0, .int .i64 r0, .int .i64 f0, .int .i64 i0, .int .i64 k0, .int .i64 l0, .int .i64 t0, .int .i64 lo0, .int .i64 hi0, .int .i64 a0, .int .i64 x0, .int .i64 y0, .int .i64 z0, ch, asd, arr, .int .i64 beg, st, .int .i64 en, ld, .int .i64 t, .int .i64 (buf + x), .bool false, .bool false, .int .i64 stl] from by rw [h5]; exact B4.out)
  clear h5 c0 c4 c5 c20 c21 c24 c25 c26 c27 c28 f20' f21' f24' f25' f26' f27' f28'
  have c0 := B5.out.cell 0
  have c4 := B5.out.cell 4
  have c5 := B5.out.cell 5
  have c20 := B5.out.cell 20
  have c21 := B5.out.cell 21
  have c24 := B5.out.cell 24
  have c25 := B5.out.cell 25
  have c26 := B5.out.cell 26
  have c27 := B5.out.cell 27
  have c28 := B5.out.cell 28
  have f20' := B5.out.frozen 20
  have f21' := B5.out.frozen 21
  have f24' := B5.out.frozen 24
  have f25' := B5.out.frozen 25
  have f26' := B5.out.frozen 26
  have f27' := B5.out.frozen 27
  have f28' := B5.out.frozen 28
  go_quiet (fail)
  go_wp2_with fail
  refine gen_wpC fun W7 h7 => ?_
  have T7 := hide (show Tw w W7 g none from by rw [h7]; (repeat' (first | (with_reducible exact T5.out) | (with_reducible refine Tw.drew ?_) | (with_reducible refine Tw.drewN ?_ _) | (with_reducible refine Tw.trans ?_ (Tw.set_ _ _ _ _ _)))))
  have B7 := hide (show Blk W7 g 77 #[.slice (some ⟨b, off, none⟩) ln lc, .slice sA sn sc, .slice qA qn qc, .int .i64 d0, .int .i64 s0, .int .i64 r0, .int .i64 f0, .int .i64 i0, .int .i64 k0, .int .i64 l0, .int .i64 t0, .int .i64 lo0, .int .i64 hi0, .int .i64 a0, .int .i64 x0, .int .i64 y0, .int .i64 z0, ch, asd, arr, .int .i64 beg, st, .int .i64 en, ld, .int .i64 t, .int .i64 (buf + x), .bool false, .bool false, .int .i64 stl] from by rw [h7]; exact B5.out)
  clear h7 c0 c4 c5 c20 c21 c24 c25 c26 c27 c28 f20' f21' f24' f25' f26' f27' f28'
  have c0 := B7.out.cell 0
  have c4 := B7.out.cell 4
  have c5 := B7.out.cell 5
  have c20 := B7.out.cell 20
  have c21 := B7.out.cell 21
  have c24 := B7.out.cell 24
  have c25 := B7.out.cell 25
  have c26 := B7.out.cell 26
  have c27 := B7.out.cell 27
  have c28 := B7.out.cell 28
  have f20' := B7.out.frozen 20
  have f21' := B7.out.frozen 21
  have f24' := B7.out.frozen 24
  have f25' := B7.out.frozen 25
  have f26' := B7.out.frozen 26
  have f27' := B7.out.frozen 27
  have f28' := B7.out.frozen 28
  go_quiet (fail)
  go_wp2_with fail
  refine gen_bod fun W6 h6 => ?_
  have T6 := hide (show Tw w W6 g none from by rw [h6]; (repeat' (first | (with_reducible exact T7.out) | (with_reducible refine Tw.drew ?_) | (with_reducible refine Tw.drewN ?_ _) | (with_reducible refine Tw.trans ?_ (Tw.set_ _ _ _ _ _)))))
  have B6 := hide (show Blk W6 g 77 #[.slice (some ⟨b, off, none⟩) ln lc, .slice sA sn sc, .slice qA qn qc, .int .i64 d0, .int .i64 s0, .int .i64 r0, .int .i64 f0, .int .i64 i0, .int .i64 k0, .int .i64 l0, .int .i64 t0, .int .i64 lo0, .int .i64 hi0, .int .i64 a0, .int .i64 x0, .int .i64 y0, .int .i64 z0, ch, asd, arr, .int .i64 beg, st, .int .i64 en, ld, .int .i64 t, .int .i64 (buf + x), .bool false, .bool false, .int .i64 stl] from by rw [h6]; exact B7.out)
  clear h6
  go_end0
  exact ⟨st, rfl, B6.out, HO.out.tw T6.out (fun e => by have := (HO.out.lt g e).1; omega) (fun _ _ h => by cases h), T6.out.more _, .inl rfl⟩
theorem came_any (h : Blk w g 77 #[.slice lA ln lc, .slice sA sn sc, .slice qA qn qc, .int .i64 d0, .int .i64 s0, .int .i64 r0, .int .i64 f0, .int .i64 i0, .int .i64 k0, .int .i64 l0, .int .i64 t0, .int .i64 lo0, .int .i64 hi0, .int .i64 a0, .int .i64 x0, .int .i64 y0, .int .i64 z0, ch, asd, arr, .int .i64 beg, st, .int .i64 en, ld, .int .i64 at_, .int .i64 buf, .bool pl, .bool bg, .int .i64 stl]) (hL : At w 1 e64 lA ln lc L) {n : Nat} (hn : n < ln) (ha : 0 ≤ at_ ∧ at_ ≤ 1000000000000000000) (hb : 0 ≤ buf ∧ buf ≤ 1000000000000) (hx : 0 ≤ L.getD n 0 ∧ L.getD n 0 ≤ 1000000000) {t : Int} (ht : at_ ≤ t ∧ t ≤ 1000000000000000000) {sts : List (Int × Int)} (hLg : ∀ a, lA = some a → a.block < g) (hO : Own w B 91 2 e2 st sts) (hB : g < B) (hBw : B ≤ w.heap.size) (hsl : sts.length ≤ 1000) (hok : okW ⟨at_, buf, pl, bg, stl, beg, sts⟩) :
    Calls Tryd.prog 31 #[.pointer (some ⟨g, 0, none⟩), .int .i64 (n : Int), .int .i64 t] w (CamGives w g B lA ln lc sA sn sc qA qn qc d0 s0 r0 f0 i0 k0 l0 t0 lo0 hi0 a0 x0 y0 z0 ch asd arr st ld en (camT s0 r0 (L.getD n 0) t (decide (n + 1 = L.length)) ⟨at_, buf, pl, bg, stl, beg, sts⟩)) := by
  cases pl with
  | true =>
    by_cases hc : t ≤ at_ + buf
    · exact came_c1 h hL hn ha hb hx ht hLg hO hB hBw hsl hc
    · have hbg : bg = true := hok.2.1 rfl
      subst hbg
      exact came_c2 h hL hn ha hb hx ht hLg hO hB hBw hsl (by omega)
  | false =>
    cases bg with
    | true => exact came_c3 h hL hn ha hb hx ht hLg hO hB hBw hsl (hok.2.2 rfl rfl)
    | false => exact came_c4 h hL hn ha hb hx ht hLg hO hB hBw hsl
end
end Go.Proofs.YtfelgolfebhmkaaDoor
