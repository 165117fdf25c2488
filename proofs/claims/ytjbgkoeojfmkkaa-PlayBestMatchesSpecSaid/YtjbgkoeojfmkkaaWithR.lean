/- Walk: With of the document. Conditions as stated. -/
import Derived.Test.YtjbgkoeojfmkkaaCrsD
import Derived.Test.YtjbgkoeojfmkkaaRunR
import Derived.Test.YtjbgkoeojfmkkaaNetC
namespace Go.Proofs.Ytjbgkoeojfmkkaa
open Go.RowKit
theorem ends_same2 {l : List (Int × Int)} (hz : trcF l = 0) {f b : Int} (hf : 0 ≤ f ∧ f ≤ 2000000000000) (hb : 1 ≤ b ∧ b ≤ 1000000000) : endsP l f b = endsR l f b := by
  obtain ⟨h0, _, hall, _⟩ := trcF_zero hz
  have hok := okT_all hz 0 (by omega)
  have hx := (trEl_zero (hall 0 h0)).2.2.1 rfl
  rw [List.drop_zero] at hok
  match l, h0 with
  | x :: r, _ =>
    have e : max f x.1 = f := by simp at hx; omega
    have := endsEq r x f b hok (by omega) hb.2 hf.2
    rw [e] at this
    exact this
section
variable {lA : Option Addr} {ln lc : Nat} {sA : Option Addr} {sn sc : Nat} {qA : Option Addr} {qn qc : Nat} {L : List Int} {S : List (List Int)} {Q : List Int} {T : List (Int × Int)} {C : List Int} {d0 s0 r0 f0 i0 k0 l0 t0 lo0 hi0 a0 x0 y0 z0 : Int} {w : World}
theorem refFollow_with {W : World} {tA : Option Addr} {tn tc : Nat} {cA : Option Addr} {cn cc : Nat} (hF : filmF L S Q = 0) (hT0 : trcF T = 0) (hd : 0 ≤ d0 ∧ d0 ≤ 100000) (hf : 1 ≤ f0 ∧ f0 ≤ 1000000000) (hC0 : chsF L.length S.length C = 0)
    (h : Shw W lA ln lc sA sn sc qA qn qc L S Q) (hT : At W 2 e2 tA tn tc T) (hC : At W 1 e64 cA cn cc C) :
    Calls Try.prog 46 #[shV lA ln lc sA sn sc qA qn qc, .slice tA tn tc, .agg #[.int .i64 d0, .int .i64 s0, .int .i64 r0, .int .i64 f0, .int .i64 i0, .int .i64 k0, .int .i64 l0, .int .i64 t0, .int .i64 lo0, .int .i64 hi0, .int .i64 a0, .int .i64 x0, .int .i64 y0, .int .i64 z0], .slice cA cn cc, .agg #[.int .i64 0, .int .i64 0]] W (FolGives W L.length (folF f0 s0 r0 L S (gvF C) (trF T d0) L.length)) := by
  have ok := filmF_ok hF
  have hR := run_trace (f0 := f0) (s0 := s0) (r0 := r0) hF hT0 hd hC0
  obtain ⟨hc1, hc2⟩ := chsF_zero hC0
  have hl := ok.l1
  refine refFollow_any (M := 1000000000000) (D := 1000100000) h hC (by omega) ok.l0 ok.sl (size_any ok) hR (by omega) ⟨hd.1, by omega⟩ ⟨by omega, by omega⟩ (.inl ⟨Int.le_refl _, fun W' hW n hn => ?_⟩)
  obtain ⟨h1, h2, h3, _⟩ := hR.all n (by omega)
  have hb := ask_bd (full := f0) (long := L.getD n 0) h1
  have e2 : asN f0 s0 r0 L S (gvF C) (trF T d0) n = askT f0 (L.getD n 0) (folF f0 s0 r0 L S (gvF C) (trF T d0) n).w := rfl
  rw [← e2] at hb
  have hn2 : (n : Int) * 1000100000 ≤ 200 * 1000100000 := by omega
  obtain ⟨⟨q1, q2⟩, _⟩ := hR.comes n hn h1 h2 (by omega)
  have e3 : zN f0 s0 r0 L S (gvF C) (trF T d0) n = (S.getD (rN f0 s0 r0 L S (gvF C) (trF T d0) n).toNat []).getD n 0 := rfl
  have hz := ok.sr (rN f0 s0 r0 L S (gvF C) (trF T d0) n).toNat (by omega) n hn
  rw [← e3] at hz
  have e4 : tN f0 s0 r0 L S (gvF C) (trF T d0) n = endsP T (asN f0 s0 r0 L S (gvF C) (trF T d0) n + d0) (zN f0 s0 r0 L S (gvF C) (trF T d0) n) := rfl
  rw [e4, ends_same2 hT0 ⟨by omega, by omega⟩ hz]
  exact refEndsIn_any (hT.ext hW) hT0 ⟨by omega, by omega⟩ hz
set_option maxRecDepth 1000000 in
set_option maxHeartbeats 8000000 in
theorem refWith_any {tA : Option Addr} {tn tc : Nat} {cA : Option Addr} {cn cc : Nat} (h : Shw w lA ln lc sA sn sc qA qn qc L S Q) (hT : At w 2 e2 tA tn tc T) (hC : At w 1 e64 cA cn cc C) :
    Calls Try.prog 20 #[shV lA ln lc sA sn sc qA qn qc, .slice tA tn tc, plV d0 s0 r0 f0 i0 k0 l0 t0 lo0 hi0 a0 x0 y0 z0, .slice cA cn cc] w (WithGives w (withF L S Q T C d0 s0 r0 f0 i0 k0 l0 t0 lo0 hi0 a0 x0 y0 z0) L.length (folF f0 s0 r0 L S (gvF C) (trF T d0) L.length)) := by
  have HR := hide (fun (W : World) (hW : Ext w W) => ask_any (d := d0) (s := s0) (r := r0) (f := f0) (i := i0) (k := k0) (l := l0) (t := t0) (lo := lo0) (hi := hi0) (a := a0) (x := x0) (y := y0) (z := z0) (h.ext hW) (hT.ext hW))
  have hv : withF L S Q T C d0 s0 r0 f0 i0 k0 l0 t0 lo0 hi0 a0 x0 y0 z0 = if runF L S Q T d0 s0 r0 f0 i0 k0 l0 t0 lo0 hi0 a0 x0 y0 z0 ≠ 0 then runF L S Q T d0 s0 r0 f0 i0 k0 l0 t0 lo0 hi0 a0 x0 y0 z0 else chsF L.length S.length C := rfl
  have hLn := h.longs.len
  have hSn := h.sizes.len
  have HCF : Hid (runF L S Q T d0 s0 r0 f0 i0 k0 l0 t0 lo0 hi0 a0 x0 y0 z0 = 0 → ∀ W, Ext w W → Calls Try.prog 48 #[shV lA ln lc sA sn sc qA qn qc, .slice cA cn cc] W fun e w' => e = .returned (.int .i64 (chsF L.length S.length C)) ∧ Ext W w') := hide (fun hr W hW => by
    rw [hLn, hSn]
    exact refChoices_any (by have := (filmF_ok (runF_zero hr).1).s1; omega) (hC.ext hW))
  generalize hu : runF L S Q T d0 s0 r0 f0 i0 k0 l0 t0 lo0 hi0 a0 x0 y0 z0 = u at *
  generalize withF L S Q T C d0 s0 r0 f0 i0 k0 l0 t0 lo0 hi0 a0 x0 y0 z0 = v at *
  have HY : Hid (u ≠ 0 → v = u) := hide (fun h => by rw [hv, if_pos h])
  have HN : Hid (u = 0 → v = chsF L.length S.length C) := hide (fun h => by rw [hv, if_neg (by omega)])
  have HU := hide hu
  have HZ : Hid (u = 0 → filmF L S Q = 0 ∧ trcF T = 0 ∧ (0 ≤ d0 ∧ d0 ≤ 100000) ∧ (1 ≤ f0 ∧ f0 ≤ 1000000000)) := hide (fun h1 => runF_zero (hu.trans h1))
  clear hv hu
  have HH := hide h
  have HT := hide hT
  have HC := hide hC
  clear h hT hC
  go_enter Try.func20, Try.ntmps20
  go_wp2_with fail
  refine (HR.out _ (by repeat' (first | (with_reducible exact Below.refl _ _) | (with_reducible assumption) | (with_reducible refine below_drewN ?_ _) | (with_reducible refine Below.drew ?_) | (with_reducible refine ext_alloc ?_ _) | (with_reducible refine Below.setCell ?_ ?_ _) | go_size))).mono ?_
  rintro e w1 ⟨rfl, e1⟩
  have E1 : Hid (Ext w w1) := hide (Ext.trans (ext_alloc (ext_alloc (Ext.alloc _ _) _) _) e1)
  have B0 := hide (((Blk.new w 25 #[.slice lA ln lc, .slice sA sn sc, .slice qA qn qc]).alloc (.cells #[.int .i64 d0, .int .i64 s0, .int .i64 r0, .int .i64 f0, .int .i64 i0, .int .i64 k0, .int .i64 l0, .int .i64 t0, .int .i64 lo0, .int .i64 hi0, .int .i64 a0, .int .i64 x0, .int .i64 y0, .int .i64 z0] 30)).alloc (.cells #[.slice none 0 0, .slice none 0 0, .slice none 0 0, .int .i64 0, .slice none 0 0, .int .i64 0] 33) |>.ext e1)
  have b1 := (Blk.new (w.alloc (.cells #[.slice lA ln lc, .slice sA sn sc, .slice qA qn qc] 25)) 30 #[.int .i64 d0, .int .i64 s0, .int .i64 r0, .int .i64 f0, .int .i64 i0, .int .i64 k0, .int .i64 l0, .int .i64 t0, .int .i64 lo0, .int .i64 hi0, .int .i64 a0, .int .i64 x0, .int .i64 y0, .int .i64 z0]).alloc (.cells #[.slice none 0 0, .slice none 0 0, .slice none 0 0, .int .i64 0, .slice none 0 0, .int .i64 0] 33) |>.ext e1
  have b2 := (Blk.new ((w.alloc (.cells #[.slice lA ln lc, .slice sA sn sc, .slice qA qn qc] 25)).alloc (.cells #[.int .i64 d0, .int .i64 s0, .int .i64 r0, .int .i64 f0, .int .i64 i0, .int .i64 k0, .int .i64 l0, .int .i64 t0, .int .i64 lo0, .int .i64 hi0, .int .i64 a0, .int .i64 x0, .int .i64 y0, .int .i64 z0] 30)) 33 #[.slice none 0 0, .slice none 0 0, .slice none 0 0, .int .i64 0, .slice none 0 0, .int .i64 0]).ext e1
  simp only [World.size_alloc] at b1 b2
  have B1 := hide b1
  have B2 := hide b2
  clear b1 b2 e1
  have s0' := B2.out.cell 0
  have s1' := B2.out.cell 1
  have s2' := B2.out.cell 2
  have s3' := B2.out.cell 3
  have s4' := B2.out.cell 4
  have s5' := B2.out.cell 5
  have t0' := B2.out.frozen 0
  have t1' := B2.out.frozen 1
  have t2' := B2.out.frozen 2
  have t3' := B2.out.frozen 3
  have t4' := B2.out.frozen 4
  have t5' := B2.out.frozen 5
  by_cases hu : u = 0
  rotate_left
  · have HV := hide (HY.out hu)
    have i1 : (u != 0) = true := by simp [hu]
    have hu' := hide hu
    clear hu HY HN HCF HR
    go_wp2_with fail
    refine gen_bod fun W9 h9 => ?_
    have S9 : Blk W9 (w.heap.size + 1 + 1) 33 #[.slice none 0 0, .slice none 0 0, .slice none 0 0, .int .i64 0, .slice none 0 0, .int .i64 0] := by rw [h9]; exact (((((B2.out.set_ 0 _).set_ 1 _).set_ 2 _).set_ 3 _).set_ 4 _).set_ 5 _
    have T9 : Tw w1 W9 (w.heap.size + 1 + 1) none := by rw [h9]; (repeat' (first | (with_reducible exact Tw.refl _ _ _) | (with_reducible refine Tw.trans ?_ (Tw.set_ _ _ _ _ _))))
    clear h9
    have k0' := S9.cell 0
    have k1' := S9.cell 1
    have k2' := S9.cell 2
    have k3' := S9.cell 3
    have k4' := S9.cell 4
    have k5' := S9.cell 5
    have X9 := Below.trans E1.out (T9.below E1.out.size (by omega) (fun b hb => by cases hb))
    refine bodyPost_ret (v := .tuple #[zS, .int .i64 u]) (by simp [results, Try.results20, go_sem, k0', k1', k2', k3', k4', k5']) rfl ⟨X9, fun _ => by rw [HV.out], fun h => absurd (HV.out.symm.trans h) hu'.out⟩
  have i1 : (u != 0) = false := by simp [hu]
  have HN2 := hide (HN.out hu)
  have HC2 := hide (HCF.out hu)
  have hu' := hide hu
  obtain ⟨z1, z2, z3, z4⟩ := HZ.out hu
  have HU1 := hide z1
  have HU2 := hide z2
  have HU3 := hide z3
  have HU4 := hide z4
  clear hu HN HY HCF HR HZ z1 z2 z3 z4
  have b0' := B0.out.cell 0
  have b1' := B0.out.cell 1
  have b2' := B0.out.cell 2
  go_wp2_with fail
  refine (HC2.out _ E1.out).mono ?_
  rintro e w2 ⟨rfl, e2⟩
  have E2 := hide (Ext.trans E1.out e2)
  have C0 := hide (B0.out.ext e2)
  have C1 := hide (B1.out.ext e2)
  have C2 := hide (B2.out.ext e2)
  clear e2 B0 B1 B2 E1 HC2 b0' b1' b2' s0' s1' s2' s3' s4' s5' t0' t1' t2' t3' t4' t5'
  have s0' := C2.out.cell 0
  have s1' := C2.out.cell 1
  have s2' := C2.out.cell 2
  have s3' := C2.out.cell 3
  have s4' := C2.out.cell 4
  have s5' := C2.out.cell 5
  have t0' := C2.out.frozen 0
  have t1' := C2.out.frozen 1
  have t2' := C2.out.frozen 2
  have t3' := C2.out.frozen 3
  have t4' := C2.out.frozen 4
  have t5' := C2.out.frozen 5
  generalize hcs : chsF L.length S.length C = u2 at *
  have HCS := hide hcs
  clear hcs
  by_cases hu2 : u2 = 0
  rotate_left
  · have i2 : (u2 != 0) = true := by simp [hu2]
    have hu3 := hide hu2
    clear hu2
    go_wp2_with fail
    refine gen_bod fun W9 h9 => ?_
    have S9 : Blk W9 (w.heap.size + 1 + 1) 33 #[.slice none 0 0, .slice none 0 0, .slice none 0 0, .int .i64 0, .slice none 0 0, .int .i64 0] := by rw [h9]; exact (((((C2.out.set_ 0 _).set_ 1 _).set_ 2 _).set_ 3 _).set_ 4 _).set_ 5 _
    have T9 : Tw w2 W9 (w.heap.size + 1 + 1) none := by rw [h9]; (repeat' (first | (with_reducible exact Tw.refl _ _ _) | (with_reducible refine Tw.trans ?_ (Tw.set_ _ _ _ _ _))))
    clear h9
    have k0' := S9.cell 0
    have k1' := S9.cell 1
    have k2' := S9.cell 2
    have k3' := S9.cell 3
    have k4' := S9.cell 4
    have k5' := S9.cell 5
    have X9 := Below.trans E2.out (T9.below E2.out.size (by omega) (fun b hb => by cases hb))
    refine bodyPost_ret (v := .tuple #[zS, .int .i64 u2]) (by simp [results, Try.results20, go_sem, k0', k1', k2', k3', k4', k5']) rfl ⟨X9, fun _ => by rw [HN2.out], fun h => absurd (HN2.out.symm.trans h) hu3.out⟩
  have i2 : (u2 != 0) = false := by simp [hu2]
  have hcs0 : chsF L.length S.length C = 0 := HCS.out.trans hu2
  have HFO := hide (fun (W : World) (hW : Ext w W) => refFollow_with (f0 := f0) (s0 := s0) (r0 := r0) (i0 := i0) (k0 := k0) (l0 := l0) (t0 := t0) (lo0 := lo0) (hi0 := hi0) (a0 := a0) (x0 := x0) (y0 := y0) (z0 := z0) (HU1.out) (HU2.out) (HU3.out) (HU4.out) hcs0 (HH.out.ext hW) (HT.out.ext hW) (HC.out.ext hW))
  have HU5 := hide (HN2.out.trans hu2)
  generalize folF f0 s0 r0 L S (gvF C) (trF T d0) L.length = X at *
  have g0' := C0.out.cell 0
  have g1' := C0.out.cell 1
  have g2' := C0.out.cell 2
  have g3' := C1.out.cell 0
  have g4' := C1.out.cell 1
  have g5' := C1.out.cell 2
  have g6' := C1.out.cell 3
  have g7' := C1.out.cell 4
  have g8' := C1.out.cell 5
  have g9' := C1.out.cell 6
  have g10' := C1.out.cell 7
  have g11' := C1.out.cell 8
  have g12' := C1.out.cell 9
  have g13' := C1.out.cell 10
  have g14' := C1.out.cell 11
  have g15' := C1.out.cell 12
  have g16' := C1.out.cell 13
  go_wp2_with fail
  refine (HFO.out _ E2.out).mono ?_
  rintro e w5 ⟨vS, rfl, ⟨cA5, cc5, aA5, ac5, rA5, rc5, tA5, tc5, rfl, m1, m2, m3, m4, m5⟩, hlens, e5⟩
  have X5 := hide (Ext.trans E2.out e5)
  have D2 := hide (C2.out.ext e5)
  have hbig : w.heap.size + 1 + 1 < w2.heap.size := C2.out.lt
  have HM5 := hide (And.intro m1 (And.intro m2 (And.intro m3 (And.intro m4 m5))))
  have HL5 := hide hlens
  clear m1 m2 m3 m4 m5 hlens e5 s0' s1' s2' s3' s4' s5' t0' t1' t2' t3' t4' t5'
  have y0' := D2.out.cell 0
  have z0' := D2.out.frozen 0
  have y1' := D2.out.cell 1
  have z1' := D2.out.frozen 1
  have y2' := D2.out.cell 2
  have z2' := D2.out.frozen 2
  have y3' := D2.out.cell 3
  have z3' := D2.out.frozen 3
  have y4' := D2.out.cell 4
  have z4' := D2.out.frozen 4
  have y5' := D2.out.cell 5
  have z5' := D2.out.frozen 5
  go_wp2_with fail
  refine gen_bod fun W6 h6 => ?_
  have S6 : Blk W6 (w.heap.size + 1 + 1) 33 #[.slice cA5 X.ch.length cc5, .slice aA5 X.asd.length ac5, .slice rA5 X.arr.length rc5, .int .i64 X.w.beg, .slice tA5 X.w.stalls.length tc5, .int .i64 (X.w.at_ + X.w.buf)] := by rw [h6]; exact (((((D2.out.set_ 0 _).set_ 1 _).set_ 2 _).set_ 3 _).set_ 4 _).set_ 5 _
  have T6 : Tw w5 W6 (w.heap.size + 1 + 1) none := by rw [h6]; (repeat' (first | (with_reducible exact Tw.refl _ _ _) | (with_reducible refine Tw.trans ?_ (Tw.set_ _ _ _ _ _))))
  clear h6
  have k0' := S6.cell 0
  have k1' := S6.cell 1
  have k2' := S6.cell 2
  have k3' := S6.cell 3
  have k4' := S6.cell 4
  have k5' := S6.cell 5
  have X6 := hide (Below.trans X5.out (T6.below X5.out.size (by omega) (fun b hb => by cases hb)))
  obtain ⟨m1, m2, m3, m4, m5⟩ := HM5.out
  refine bodyPost_ret (v := .tuple #[.agg #[.slice cA5 X.ch.length cc5, .slice aA5 X.asd.length ac5, .slice rA5 X.arr.length rc5, .int .i64 X.w.beg, .slice tA5 X.w.stalls.length tc5, .int .i64 (X.w.at_ + X.w.buf)], .int .i64 0]) (by simp [results, Try.results20, go_sem, k0', k1', k2', k3', k4', k5']) rfl ⟨X6.out, fun h => absurd HU5.out h, fun _ => ?_⟩
  exact ⟨_, rfl, ⟨cA5, cc5, aA5, ac5, rA5, rc5, tA5, tc5, rfl, m1.tw T6 (fun a ha => ⟨by have := m5 a (.inl ha); omega, by simp⟩), m2.tw T6 (fun a ha => ⟨by have := m5 a (.inr (.inl ha)); omega, by simp⟩), m3.tw T6 (fun a ha => ⟨by have := m5 a (.inr (.inr (.inl ha))); omega, by simp⟩), m4.tw T6 (fun a ha => ⟨by have := m5 a (.inr (.inr (.inr ha))); omega, by simp⟩), fun a ha => by have := m5 a ha; omega⟩, HL5.out⟩
end
end Go.Proofs.Ytjbgkoeojfmkkaa
