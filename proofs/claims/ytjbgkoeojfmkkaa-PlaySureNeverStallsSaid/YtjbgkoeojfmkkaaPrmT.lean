/- Walks: Sure and Least (both). Conditions as stated. -/
import Derived.Test.YtjbgkoeojfmkkaaPrmA
import Derived.Test.YtjbgkoeojfmkkaaWithR
import Derived.Test.YtjbgkoeojfmkkaaFasA
namespace Go.Proofs.Ytjbgkoeojfmkkaa
open Go.RowKit
section
variable {lA : Option Addr} {ln lc : Nat} {sA : Option Addr} {sn sc : Nat} {qA : Option Addr} {qn qc : Nat} {w : World} {L : List Int} {S : List (List Int)} {Q : List Int} {C : List Int}
set_option maxRecDepth 100000 in
set_option maxHeartbeats 8000000 in
theorem askSure_any {d s r f i k l t lo hi a x y z gw gb : Int} {cA : Option Addr} {cn cc : Nat} (h : Shw w lA ln lc sA sn sc qA qn qc L S Q) (hC : At w 1 e64 cA cn cc C) :
    Calls Try.prog 45 #[shV lA ln lc sA sn sc qA qn qc, plV d s r f i k l t lo hi a x y z, .agg #[.int .i64 gw, .int .i64 gb], .slice cA cn cc] w fun e w' => e = .returned (.int .i64 (surF L S Q C d s r f i k l t lo hi a x y z gw gb)) ∧ Ext w w' := by
  have HF := hide (fun (W : World) (hW : Ext w W) => refFilm_any (h.ext hW))
  have HP := hide (fun (W : World) => refPlr_any (d := d) (s := s) (r := r) (f := f) (i := i) (k := k) (l := l) (t := t) (lo := lo) (hi := hi) (a := a) (x := x) (y := y) (z := z) (w := W))
  have HG := hide (fun (W : World) => checkPromise_any gw gb W)
  have hsl := h.sizes.len
  have hll := h.longs.len
  have HCH : Hid (filmF L S Q = 0 → ∀ W, Ext w W → Calls Try.prog 48 #[shV lA ln lc sA sn sc qA qn qc, .slice cA cn cc] W fun e w' => e = .returned (.int .i64 (chsF ln sn C)) ∧ Ext W w') := hide (fun h1 W hW => refChoices_any (by have := (filmF_ok h1).s1; omega) (hC.ext hW))
  have hv : surF L S Q C d s r f i k l t lo hi a x y z gw gb = if filmF L S Q ≠ 0 then filmF L S Q else if plrF d s r f i k l t lo hi a x y z ≠ 0 then plrF d s r f i k l t lo hi a x y z else if (sn : Int) ≤ i then 1 else if prmF gw gb ≠ 0 then prmF gw gb else chsF ln sn C := by
    unfold surF fstF
    rw [hsl, hll]
    generalize plrF d s r f i k l t lo hi a x y z = p
    generalize filmF L S Q = q1
    by_cases c1 : q1 = 0
    · by_cases c3 : p = 0
      · by_cases c4 : (sn : Int) ≤ i
        · simp [c1, c3, c4]
        · simp [c1, c3, c4]
      · simp [c1, c3]
    · simp [c1]
  generalize surF L S Q C d s r f i k l t lo hi a x y z gw gb = v at *
  generalize filmF L S Q = q1 at *
  generalize plrF d s r f i k l t lo hi a x y z = q2 at *
  generalize prmF gw gb = q3 at *
  generalize chsF ln sn C = q4 at *
  have HV := hide hv
  clear hv hsl hll h hC
  have B0 := hide (((Blk.new w 25 #[.slice lA ln lc, .slice sA sn sc, .slice qA qn qc]).alloc (.cells #[.int .i64 d, .int .i64 s, .int .i64 r, .int .i64 f, .int .i64 i, .int .i64 k, .int .i64 l, .int .i64 t, .int .i64 lo, .int .i64 hi, .int .i64 a, .int .i64 x, .int .i64 y, .int .i64 z] 30)).alloc (.cells #[.int .i64 gw, .int .i64 gb] 44))
  have b1 := (Blk.new (w.alloc (.cells #[.slice lA ln lc, .slice sA sn sc, .slice qA qn qc] 25)) 30 #[.int .i64 d, .int .i64 s, .int .i64 r, .int .i64 f, .int .i64 i, .int .i64 k, .int .i64 l, .int .i64 t, .int .i64 lo, .int .i64 hi, .int .i64 a, .int .i64 x, .int .i64 y, .int .i64 z]).alloc (.cells #[.int .i64 gw, .int .i64 gb] 44)
  have b2 := Blk.new ((w.alloc (.cells #[.slice lA ln lc, .slice sA sn sc, .slice qA qn qc] 25)).alloc (.cells #[.int .i64 d, .int .i64 s, .int .i64 r, .int .i64 f, .int .i64 i, .int .i64 k, .int .i64 l, .int .i64 t, .int .i64 lo, .int .i64 hi, .int .i64 a, .int .i64 x, .int .i64 y, .int .i64 z] 30)) 44 #[.int .i64 gw, .int .i64 gb]
  simp only [World.size_alloc] at b1 b2
  have B1 := hide b1
  have B2 := hide b2
  have HX : Hid (Ext w (((w.alloc (.cells #[.slice lA ln lc, .slice sA sn sc, .slice qA qn qc] 25)).alloc (.cells #[.int .i64 d, .int .i64 s, .int .i64 r, .int .i64 f, .int .i64 i, .int .i64 k, .int .i64 l, .int .i64 t, .int .i64 lo, .int .i64 hi, .int .i64 a, .int .i64 x, .int .i64 y, .int .i64 z] 30)).alloc (.cells #[.int .i64 gw, .int .i64 gb] 44))) := hide (ext_alloc (ext_alloc (Ext.alloc _ _) _) _)
  clear b1 b2
  go_enter Try.func45, Try.ntmps45
  go_wp2_with fail
  refine (HF.out _ HX.out).mono ?_
  rintro e w1 ⟨rfl, e1⟩
  have E1 := hide (Ext.trans HX.out e1)
  have B0 := hide (B0.out.ext e1)
  have B1 := hide (B1.out.ext e1)
  have B2 := hide (B2.out.ext e1)
  clear e1 HX
  by_cases h1 : q1 = 0
  rotate_left
  · have i1 : (q1 != 0) = true := by simp [h1]
    have HVV : Hid (v = q1) := hide (by rw [HV.out, if_pos h1])
    clear h1
    go_wp2_with fail
    go_ret
    exact ⟨ret_int HVV.out.symm, E1.out⟩
  have i1 : (q1 != 0) = false := by simp [h1]
  have H1 := hide h1
  clear h1
  have p0 := B1.out.cell 0
  have p1 := B1.out.cell 1
  have p2 := B1.out.cell 2
  have p3 := B1.out.cell 3
  have p4 := B1.out.cell 4
  have p5 := B1.out.cell 5
  have p6 := B1.out.cell 6
  have p7 := B1.out.cell 7
  have p8 := B1.out.cell 8
  have p9 := B1.out.cell 9
  have p10 := B1.out.cell 10
  have p11 := B1.out.cell 11
  have p12 := B1.out.cell 12
  have p13 := B1.out.cell 13
  go_wp2_with fail
  refine (HP.out _).mono ?_
  rintro e w2 ⟨rfl, e2⟩
  have E2 := hide (Ext.trans E1.out e2)
  have B0 := hide (B0.out.ext e2)
  have B1 := hide (B1.out.ext e2)
  have B2 := hide (B2.out.ext e2)
  clear e2 E1 p0 p1 p2 p3 p4 p5 p6 p7 p8 p9 p10 p11 p12 p13
  by_cases h2 : q2 = 0
  rotate_left
  · have i2 : (q2 != 0) = true := by simp [h2]
    have HVV : Hid (v = q2) := hide (by rw [HV.out, if_neg (by have := H1.out; omega), if_pos h2])
    clear h2
    go_wp2_with fail
    go_ret
    exact ⟨ret_int HVV.out.symm, E2.out⟩
  have i2 : (q2 != 0) = false := by simp [h2]
  have H2 := hide h2
  clear h2
  have p4 := B1.out.cell 4
  have r1 := B0.out.cell 1
  by_cases h3 : (sn : Int) ≤ i
  · have i3 : decide ((sn : Int) ≤ i) = true := by simp [h3]
    have HVV : Hid (v = 1) := hide (by rw [HV.out, if_neg (by have := H1.out; omega), if_neg (by have := H2.out; omega), if_pos h3])
    clear h3
    go_wp2_with fail
    go_ret
    exact ⟨ret_int HVV.out.symm, E2.out⟩
  have i3 : decide ((sn : Int) ≤ i) = false := by simp; omega
  have H3 := hide h3
  clear h3
  have g0 := B2.out.cell 0
  have g1 := B2.out.cell 1
  go_wp2_with fail
  refine (HG.out _).mono ?_
  rintro e w3 ⟨rfl, e3⟩
  have E3 := hide (Ext.trans E2.out e3)
  have B0 := hide (B0.out.ext e3)
  clear e3 E2 g0 g1 p4 r1 i3
  by_cases h4 : q3 = 0
  rotate_left
  · have i4 : (q3 != 0) = true := by simp [h4]
    have HVV : Hid (v = q3) := hide (by rw [HV.out, if_neg (by have := H1.out; omega), if_neg (by have := H2.out; omega), if_neg (by have := H3.out; omega), if_pos h4])
    clear h4
    go_wp2_with fail
    go_ret
    exact ⟨ret_int HVV.out.symm, E3.out⟩
  have i4 : (q3 != 0) = false := by simp [h4]
  have HVV : Hid (v = q4) := hide (by rw [HV.out, if_neg (by have := H1.out; omega), if_neg (by have := H2.out; omega), if_neg (by have := H3.out; omega), if_neg (by omega)])
  have HC4 := hide (HCH.out H1.out)
  clear h4
  have r0 := B0.out.cell 0
  have r1 := B0.out.cell 1
  have r2 := B0.out.cell 2
  go_wp2_with fail
  refine (HC4.out _ E3.out).mono ?_
  rintro e w4 ⟨rfl, e4⟩
  have E4 := hide (Ext.trans E3.out e4)
  clear e4
  go_wp2_with fail
  go_ret
  exact ⟨ret_int HVV.out.symm, E4.out⟩
/-- When a segment comes by a promise. -/
@[reducible] def prT (gw gb d : Int) : Int → Int → Int := fun a z => a + d + gw * ((z + gb - 1) / gb)
theorem prm_parts {gw gb z : Int} (hw : 1 ≤ gw ∧ gw ≤ 1000000) (hb : 1 ≤ gb ∧ gb ≤ 1000000000) (hz : 0 ≤ z ∧ z ≤ 1000000000) : 0 ≤ (z + gb - 1) / gb ∧ (z + gb - 1) / gb ≤ 1000000000 ∧ 0 ≤ gw * ((z + gb - 1) / gb) ∧ gw * ((z + gb - 1) / gb) ≤ 1000000000000000 := by
  have h0 : 0 ≤ (z + gb - 1) / gb := Int.ediv_nonneg (by omega) (by omega)
  have h1 : (z + gb - 1) / gb ≤ 1000000000 := by
    have := Int.ediv_mul_le (z + gb - 1) (show gb ≠ 0 by omega)
    apply Int.le_of_not_gt
    intro hc
    have h2 : 1000000001 * gb ≤ (z + gb - 1) / gb * gb := Int.mul_le_mul_of_nonneg_right (by omega) (by omega)
    omega
  have h2 := Int.mul_nonneg (show 0 ≤ gw by omega) h0
  have h3 : gw * ((z + gb - 1) / gb) ≤ 1000000 * ((z + gb - 1) / gb) := Int.mul_le_mul_of_nonneg_right hw.2 h0
  exact ⟨h0, h1, h2, by omega⟩
set_option maxRecDepth 100000 in
set_option maxHeartbeats 4000000 in
theorem sureC_any {q1 q2 : Nat} {d gw gb : Int} {W : World} (h1 : W.cell? ⟨q1, 0, none⟩ = some (.int .i64 d)) (h2 : W.cell? ⟨q2, 0, none⟩ = some (.int .i64 gw)) (h3 : W.cell? ⟨q2, 1, none⟩ = some (.int .i64 gb)) {a z : Int} (ha : 0 ≤ a ∧ a ≤ 1000000000000000000) (hd : 0 ≤ d ∧ d ≤ 100000) (hw : 1 ≤ gw ∧ gw ≤ 1000000) (hb : 1 ≤ gb ∧ gb ≤ 1000000000) (hz : 0 ≤ z ∧ z ≤ 1000000000) :
    Calls Try.prog 68 #[.int .i64 a, .int .i64 z, .pointer (some ⟨q1, 0, none⟩), .pointer (some ⟨q2, 0, none⟩)] W fun e w' => e = .returned (.int .i64 (prT gw gb d a z)) ∧ Ext W w' := by
  obtain ⟨c1, c2, c3, c4⟩ := prm_parts hw hb hz
  have hqt : IntKind.i64.wrap ((z + gb - 1).tdiv gb) = (z + gb - 1) / gb := by rw [Int.tdiv_eq_ediv_of_nonneg (by omega), IntKind.wrap_i64]; omega
  have hqt2 : wrap64 ((z + gb - 1).tdiv gb) = (z + gb - 1) / gb := by rw [Int.tdiv_eq_ediv_of_nonneg (by omega)]; unfold wrap64; omega
  have hte : prT gw gb d a z = a + d + gw * ((z + gb - 1) / gb) := rfl
  generalize prT gw gb d a z = v at *
  generalize (z + gb - 1) / gb = q at *
  have hmw : IntKind.i64.wrap (gw * q) = gw * q := by
    generalize gw * q = pq at *
    rw [IntKind.wrap_i64]; omega
  have hmw2 : wrap64 (gw * q) = gw * q := by
    generalize gw * q = pq at *
    unfold wrap64; omega
  have haw : IntKind.i64.wrap (a + d + gw * q) = a + d + gw * q := by
    generalize gw * q = pq at *
    rw [IntKind.wrap_i64]; omega
  have i0 : IntKind.i64.wrap (a + d) = a + d := by rw [IntKind.wrap_i64]; omega
  have i4 : IntKind.i64.wrap (z + gb) = z + gb := by rw [IntKind.wrap_i64]; omega
  have i5 : IntKind.i64.wrap (z + gb - 1) = z + gb - 1 := by rw [IntKind.wrap_i64]; omega
  have i6 : (gb == 0) = false := by simp; omega
  have i7 : gb ≠ 0 := by omega
  have HTE := hide hte
  clear hte c1 c2 c3 c4
  go_enter Try.func68, Try.ntmps68
  go_wp2_with fail
  go_quiet (fail)
  go_wp2_with fail
  go_ret
  exact ⟨ret_int HTE.out.symm, Ext.drewN _ _⟩
set_option linter.unusedVariables false in
/-- A run by a promise goes well. -/
theorem run_prm {d0 s0 r0 f0 i0 k0 l0 t0 lo0 hi0 a0 x0 y0 z0 gw gb : Int} (hF : filmF L S Q = 0) (hd : 0 ≤ d0 ∧ d0 ≤ 100000) (hw : 1 ≤ gw ∧ gw ≤ 1000000) (hb : 1 ≤ gb ∧ gb ≤ 1000000000) (hC : chsF L.length S.length C = 0) : RunOk f0 s0 r0 L S (gvF C) (prT gw gb d0) 0 1000000000100000 := by
  have ok := filmF_ok hF
  refine ⟨fun i hi => ⟨by have := (ok.lr i hi).1; omega, (ok.lr i hi).2⟩, ok.l1, by omega, by omega, fun n hn h1 h2 h3 => ?_⟩
  obtain ⟨hc1, hc2⟩ := chsF_zero hC
  have hr := rngB_false hc2 n (by omega)
  have e1 : rN f0 s0 r0 L S (gvF C) (prT gw gb d0) n = C.getD n 0 := rfl
  have e3 : tN f0 s0 r0 L S (gvF C) (prT gw gb d0) n = asN f0 s0 r0 L S (gvF C) (prT gw gb d0) n + d0 + gw * ((zN f0 s0 r0 L S (gvF C) (prT gw gb d0) n + gb - 1) / gb) := rfl
  obtain ⟨c1, c2, c3, c4⟩ := prm_parts hw hb (z := zN f0 s0 r0 L S (gvF C) (prT gw gb d0) n) (size_any ok _ _)
  rw [e1, e3]
  refine ⟨⟨by omega, by omega⟩, by omega, by omega⟩
theorem follow_sure {d0 s0 r0 f0 i0 k0 l0 t0 lo0 hi0 a0 x0 y0 z0 gw gb : Int} {W : World} {q1 q2 q3 : Nat} {cA : Option Addr} {cn cc : Nat} (hF : filmF L S Q = 0) (hd : 0 ≤ d0 ∧ d0 ≤ 100000) (hf : 1 ≤ f0 ∧ f0 ≤ 1000000000) (hw : 1 ≤ gw ∧ gw ≤ 1000000) (hb : 1 ≤ gb ∧ gb ≤ 1000000000) (hC0 : chsF L.length S.length C = 0)
    (h : Shw W lA ln lc sA sn sc qA qn qc L S Q) (hC : At W 1 e64 cA cn cc C) (b1 : Blk W q1 22 #[.slice cA cn cc]) (b2 : Blk W q2 30 #[.int .i64 d0, .int .i64 s0, .int .i64 r0, .int .i64 f0, .int .i64 i0, .int .i64 k0, .int .i64 l0, .int .i64 t0, .int .i64 lo0, .int .i64 hi0, .int .i64 a0, .int .i64 x0, .int .i64 y0, .int .i64 z0]) (b3 : Blk W q3 44 #[.int .i64 gw, .int .i64 gb]) :
    Calls Try.prog 28 #[shV lA ln lc sA sn sc qA qn qc, .agg #[.int .i64 d0, .int .i64 s0, .int .i64 r0, .int .i64 f0, .int .i64 i0, .int .i64 k0, .int .i64 l0, .int .i64 t0, .int .i64 lo0, .int .i64 hi0, .int .i64 a0, .int .i64 x0, .int .i64 y0, .int .i64 z0], .func (.func 63) #[] #[.pointer (some ⟨q1, 0, none⟩)], .func (.func 68) #[] #[.pointer (some ⟨q2, 0, none⟩), .pointer (some ⟨q3, 0, none⟩)]] W (FolGives W L.length (folF f0 s0 r0 L S (gvF C) (prT gw gb d0) L.length)) := by
  have ok := filmF_ok hF
  have hR := run_prm (f0 := f0) (s0 := s0) (r0 := r0) (i0 := i0) (k0 := k0) (l0 := l0) (t0 := t0) (lo0 := lo0) (hi0 := hi0) (a0 := a0) (x0 := x0) (y0 := y0) (z0 := z0) hF hd hw hb hC0
  obtain ⟨hc1, hc2⟩ := chsF_zero hC0
  have hcl := hC.len
  refine follow_any (M := 0) (D := 1000000000100000) (fun _ _ => rfl) (fun _ _ => rfl) h ok.sl (size_any ok) hR (by omega) ⟨by omega, by omega⟩ ?_ ?_
  · intro W' hW n hn ldA ldn ldc _
    exact givenC_any (hW.cell (b1.cell 0)) (hC.ext hW) (by omega) _ _ _ _ _ _
  · intro W' hW n hn
    obtain ⟨h1, h2, h3, _⟩ := hR.all n (by omega)
    have hb' := ask_bd (full := f0) (long := L.getD n 0) h1
    have hl := ok.l1
    have e2 : asN f0 s0 r0 L S (gvF C) (prT gw gb d0) n = askT f0 (L.getD n 0) (folF f0 s0 r0 L S (gvF C) (prT gw gb d0) n).w := rfl
    have hz : 0 ≤ zN f0 s0 r0 L S (gvF C) (prT gw gb d0) n ∧ zN f0 s0 r0 L S (gvF C) (prT gw gb d0) n ≤ 1000000000 := size_any ok _ _
    rw [← e2] at hb'
    have hn2 : (n : Int) * 1000000000100000 ≤ 200 * 1000000000100000 := by omega
    exact sureC_any (hW.cell (b2.cell 0)) (hW.cell (b3.cell 0)) (hW.cell (b3.cell 1)) ⟨by omega, by omega⟩ hd hw hb hz
theorem refFollow_sure {d0 s0 r0 f0 i0 k0 l0 t0 lo0 hi0 a0 x0 y0 z0 gw gb : Int} {W : World} {cA : Option Addr} {cn cc : Nat} (hF : filmF L S Q = 0) (hd : 0 ≤ d0 ∧ d0 ≤ 100000) (hf : 1 ≤ f0 ∧ f0 ≤ 1000000000) (hw : 1 ≤ gw ∧ gw ≤ 1000000) (hb : 1 ≤ gb ∧ gb ≤ 1000000000) (hC0 : chsF L.length S.length C = 0)
    (h : Shw W lA ln lc sA sn sc qA qn qc L S Q) (hC : At W 1 e64 cA cn cc C) :
    Calls Try.prog 46 #[shV lA ln lc sA sn sc qA qn qc, .slice none 0 0, .agg #[.int .i64 d0, .int .i64 s0, .int .i64 r0, .int .i64 f0, .int .i64 i0, .int .i64 k0, .int .i64 l0, .int .i64 t0, .int .i64 lo0, .int .i64 hi0, .int .i64 a0, .int .i64 x0, .int .i64 y0, .int .i64 z0], .slice cA cn cc, .agg #[.int .i64 gw, .int .i64 gb]] W (FolGives W L.length (folF f0 s0 r0 L S (gvF C) (prT gw gb d0) L.length)) := by
  have ok := filmF_ok hF
  have hR := run_prm (f0 := f0) (s0 := s0) (r0 := r0) (i0 := i0) (k0 := k0) (l0 := l0) (t0 := t0) (lo0 := lo0) (hi0 := hi0) (a0 := a0) (x0 := x0) (y0 := y0) (z0 := z0) hF hd hw hb hC0
  obtain ⟨hc1, hc2⟩ := chsF_zero hC0
  exact refFollow_any (M := 0) (D := 1000000000100000) h hC (by omega) ok.l0 ok.sl (size_any ok) hR (by omega) ⟨hd.1, by omega⟩ ⟨by omega, by omega⟩ (.inr ⟨by omega, hb.2, by omega, by omega, fun n _ => rfl⟩)
end
end Go.Proofs.Ytjbgkoeojfmkkaa
namespace Go.Proofs.Ytjbgkoeojfmkkaa
open Go.RowKit
theorem ext_setsS {w W : World} {g : Nat} {a b c d e f : Value} (h : Ext w W) (hg : w.heap.size ≤ g) : Ext w ((((((W.setCell ⟨g, 0, none⟩ a).setCell ⟨g, 1, none⟩ b).setCell ⟨g, 2, none⟩ c).setCell ⟨g, 3, none⟩ d).setCell ⟨g, 4, none⟩ e).setCell ⟨g, 5, none⟩ f) := by
  have t : Tw W ((((((W.setCell ⟨g, 0, none⟩ a).setCell ⟨g, 1, none⟩ b).setCell ⟨g, 2, none⟩ c).setCell ⟨g, 3, none⟩ d).setCell ⟨g, 4, none⟩ e).setCell ⟨g, 5, none⟩ f) g none := by
    (repeat' (first | (with_reducible exact Tw.refl _ _ _) | (with_reducible refine Tw.trans ?_ (Tw.set_ _ _ _ _ _))))
  exact Below.trans h (t.below h.size hg (fun b hb => by cases hb))
theorem blk_setsS {W : World} {g t : Nat} {z0 z1 z2 z3 z4 z5 a b c d e f : Value} (h : Blk W g t #[z0, z1, z2, z3, z4, z5]) : Blk ((((((W.setCell ⟨g, 0, none⟩ a).setCell ⟨g, 1, none⟩ b).setCell ⟨g, 2, none⟩ c).setCell ⟨g, 3, none⟩ d).setCell ⟨g, 4, none⟩ e).setCell ⟨g, 5, none⟩ f) g t #[a, b, c, d, e, f] :=
  (((((h.set_ 0 a).set_ 1 b).set_ 2 c).set_ 3 d).set_ 4 e).set_ 5 f
section
variable {lA : Option Addr} {ln lc : Nat} {sA : Option Addr} {sn sc : Nat} {qA : Option Addr} {qn qc : Nat} {w : World} {L : List Int} {S : List (List Int)} {Q : List Int} {C : List Int}
set_option linter.unusedVariables false in
set_option maxRecDepth 1000000 in
set_option maxHeartbeats 16000000 in
theorem sure_any {d0 s0 r0 f0 i0 k0 l0 t0 lo0 hi0 a0 x0 y0 z0 gw gb : Int} {cA : Option Addr} {cn cc : Nat} (hF : filmF L S Q = 0) (hd : 0 ≤ d0 ∧ d0 ≤ 100000) (hf : 1 ≤ f0 ∧ f0 ≤ 1000000000) (hw : 1 ≤ gw ∧ gw ≤ 1000000) (hb : 1 ≤ gb ∧ gb ≤ 1000000000) (hC0 : chsF L.length S.length C = 0)
    (h : Shw w lA ln lc sA sn sc qA qn qc L S Q) (hC : At w 1 e64 cA cn cc C) :
    Calls Try.prog 44 #[shV lA ln lc sA sn sc qA qn qc, plV d0 s0 r0 f0 i0 k0 l0 t0 lo0 hi0 a0 x0 y0 z0, .agg #[.int .i64 gw, .int .i64 gb], .slice cA cn cc] w fun e w' => e = .returned (.bool (decide ((folF f0 s0 r0 L S (gvF C) (prT gw gb d0) L.length).w.stalls.length = 0))) ∧ Ext w w' := by
  have HFO := hide (fun (W : World) (q1 q2 q3 : Nat) (hW : Ext w W) (b1 : Blk W q1 22 #[.slice cA cn cc]) (b2 : Blk W q2 30 #[.int .i64 d0, .int .i64 s0, .int .i64 r0, .int .i64 f0, .int .i64 i0, .int .i64 k0, .int .i64 l0, .int .i64 t0, .int .i64 lo0, .int .i64 hi0, .int .i64 a0, .int .i64 x0, .int .i64 y0, .int .i64 z0]) (b3 : Blk W q3 44 #[.int .i64 gw, .int .i64 gb]) => follow_sure hF hd hf hw hb hC0 (h.ext hW) (hC.ext hW) b1 b2 b3)
  generalize folF f0 s0 r0 L S (gvF C) (prT gw gb d0) L.length = F at *
  have HX : Hid (Ext w (((w.alloc (.cells #[.slice lA ln lc, .slice sA sn sc, .slice qA qn qc] 25)).alloc (.cells #[.int .i64 d0, .int .i64 s0, .int .i64 r0, .int .i64 f0, .int .i64 i0, .int .i64 k0, .int .i64 l0, .int .i64 t0, .int .i64 lo0, .int .i64 hi0, .int .i64 a0, .int .i64 x0, .int .i64 y0, .int .i64 z0] 30)).alloc (.cells #[.int .i64 gw, .int .i64 gb] 44))) := hide (ext_alloc (ext_alloc (Ext.alloc _ _) _) _)
  have hb0 := ((Blk.new w 25 #[.slice lA ln lc, .slice sA sn sc, .slice qA qn qc]).alloc (.cells #[.int .i64 d0, .int .i64 s0, .int .i64 r0, .int .i64 f0, .int .i64 i0, .int .i64 k0, .int .i64 l0, .int .i64 t0, .int .i64 lo0, .int .i64 hi0, .int .i64 a0, .int .i64 x0, .int .i64 y0, .int .i64 z0] 30)).alloc (.cells #[.int .i64 gw, .int .i64 gb] 44)
  have hb1 := (Blk.new (w.alloc (.cells #[.slice lA ln lc, .slice sA sn sc, .slice qA qn qc] 25)) 30 #[.int .i64 d0, .int .i64 s0, .int .i64 r0, .int .i64 f0, .int .i64 i0, .int .i64 k0, .int .i64 l0, .int .i64 t0, .int .i64 lo0, .int .i64 hi0, .int .i64 a0, .int .i64 x0, .int .i64 y0, .int .i64 z0]).alloc (.cells #[.int .i64 gw, .int .i64 gb] 44)
  have hb2 := Blk.new ((w.alloc (.cells #[.slice lA ln lc, .slice sA sn sc, .slice qA qn qc] 25)).alloc (.cells #[.int .i64 d0, .int .i64 s0, .int .i64 r0, .int .i64 f0, .int .i64 i0, .int .i64 k0, .int .i64 l0, .int .i64 t0, .int .i64 lo0, .int .i64 hi0, .int .i64 a0, .int .i64 x0, .int .i64 y0, .int .i64 z0] 30)) 44 #[.int .i64 gw, .int .i64 gb]
  simp only [World.size_alloc] at hb1 hb2
  have HB0 := hide hb0
  have HB1 := hide hb1
  have HB2 := hide hb2
  clear hb0 hb1 hb2 hF hd hf hw hb hC0 h hC
  go_enter Try.func44, Try.ntmps44
  go_wp2_with fail
  refine gen_wpC fun W0 h0 => ?_
  have B0 := hide (show Blk W0 w.heap.size 25 #[.slice lA ln lc, .slice sA sn sc, .slice qA qn qc] from by rw [h0]; exact HB0.out)
  have B1 := hide (show Blk W0 (w.heap.size + 1) 30 #[.int .i64 d0, .int .i64 s0, .int .i64 r0, .int .i64 f0, .int .i64 i0, .int .i64 k0, .int .i64 l0, .int .i64 t0, .int .i64 lo0, .int .i64 hi0, .int .i64 a0, .int .i64 x0, .int .i64 y0, .int .i64 z0] from by rw [h0]; exact HB1.out)
  have B2 := hide (show Blk W0 (w.heap.size + 1 + 1) 44 #[.int .i64 gw, .int .i64 gb] from by rw [h0]; exact HB2.out)
  have X0 := hide (show Ext w W0 from by rw [h0]; exact HX.out)
  clear h0 HB0 HB1 HB2 HX
  have g0 : W0.cell? ⟨w.heap.size, 0, none⟩ = some (.slice lA ln lc) := B0.out.cell 0
  have g1 : W0.cell? ⟨w.heap.size, 1, none⟩ = some (.slice sA sn sc) := B0.out.cell 1
  have g2 : W0.cell? ⟨w.heap.size, 2, none⟩ = some (.slice qA qn qc) := B0.out.cell 2
  have g3 : W0.cell? ⟨w.heap.size + 1, 0, none⟩ = some (.int .i64 d0) := B1.out.cell 0
  have g4 : W0.cell? ⟨w.heap.size + 1, 1, none⟩ = some (.int .i64 s0) := B1.out.cell 1
  have g5 : W0.cell? ⟨w.heap.size + 1, 2, none⟩ = some (.int .i64 r0) := B1.out.cell 2
  have g6 : W0.cell? ⟨w.heap.size + 1, 3, none⟩ = some (.int .i64 f0) := B1.out.cell 3
  have g7 : W0.cell? ⟨w.heap.size + 1, 4, none⟩ = some (.int .i64 i0) := B1.out.cell 4
  have g8 : W0.cell? ⟨w.heap.size + 1, 5, none⟩ = some (.int .i64 k0) := B1.out.cell 5
  have g9 : W0.cell? ⟨w.heap.size + 1, 6, none⟩ = some (.int .i64 l0) := B1.out.cell 6
  have g10 : W0.cell? ⟨w.heap.size + 1, 7, none⟩ = some (.int .i64 t0) := B1.out.cell 7
  have g11 : W0.cell? ⟨w.heap.size + 1, 8, none⟩ = some (.int .i64 lo0) := B1.out.cell 8
  have g12 : W0.cell? ⟨w.heap.size + 1, 9, none⟩ = some (.int .i64 hi0) := B1.out.cell 9
  have g13 : W0.cell? ⟨w.heap.size + 1, 10, none⟩ = some (.int .i64 a0) := B1.out.cell 10
  have g14 : W0.cell? ⟨w.heap.size + 1, 11, none⟩ = some (.int .i64 x0) := B1.out.cell 11
  have g15 : W0.cell? ⟨w.heap.size + 1, 12, none⟩ = some (.int .i64 y0) := B1.out.cell 12
  have g16 : W0.cell? ⟨w.heap.size + 1, 13, none⟩ = some (.int .i64 z0) := B1.out.cell 13
  have HS : Hid (∀ w', Ext W0 w' → w'.cell? ⟨w.heap.size, 0, none⟩ = some (.slice lA ln lc) ∧ w'.cell? ⟨w.heap.size, 1, none⟩ = some (.slice sA sn sc) ∧ w'.cell? ⟨w.heap.size, 2, none⟩ = some (.slice qA qn qc) ∧ w'.cell? ⟨w.heap.size + 1, 0, none⟩ = some (.int .i64 d0) ∧ w'.cell? ⟨w.heap.size + 1, 1, none⟩ = some (.int .i64 s0) ∧ w'.cell? ⟨w.heap.size + 1, 2, none⟩ = some (.int .i64 r0) ∧ w'.cell? ⟨w.heap.size + 1, 3, none⟩ = some (.int .i64 f0) ∧ w'.cell? ⟨w.heap.size + 1, 4, none⟩ = some (.int .i64 i0) ∧ w'.cell? ⟨w.heap.size + 1, 5, none⟩ = some (.int .i64 k0) ∧ w'.cell? ⟨w.heap.size + 1, 6, none⟩ = some (.int .i64 l0) ∧ w'.cell? ⟨w.heap.size + 1, 7, none⟩ = some (.int .i64 t0) ∧ w'.cell? ⟨w.heap.size + 1, 8, none⟩ = some (.int .i64 lo0) ∧ w'.cell? ⟨w.heap.size + 1, 9, none⟩ = some (.int .i64 hi0) ∧ w'.cell? ⟨w.heap.size + 1, 10, none⟩ = some (.int .i64 a0) ∧ w'.cell? ⟨w.heap.size + 1, 11, none⟩ = some (.int .i64 x0) ∧ w'.cell? ⟨w.heap.size + 1, 12, none⟩ = some (.int .i64 y0) ∧ w'.cell? ⟨w.heap.size + 1, 13, none⟩ = some (.int .i64 z0)) := hide (fun w' EX => ⟨EX.cell g0, EX.cell g1, EX.cell g2, EX.cell g3, EX.cell g4, EX.cell g5, EX.cell g6, EX.cell g7, EX.cell g8, EX.cell g9, EX.cell g10, EX.cell g11, EX.cell g12, EX.cell g13, EX.cell g14, EX.cell g15, EX.cell g16⟩)
  have EX := Ext.drew W0
  go_region_held3 (fun w' => w'.cell? ⟨w.heap.size, 0, none⟩ = some (.slice lA ln lc) ∧ w'.cell? ⟨w.heap.size, 1, none⟩ = some (.slice sA sn sc) ∧ w'.cell? ⟨w.heap.size, 2, none⟩ = some (.slice qA qn qc) ∧ w'.cell? ⟨w.heap.size + 1, 0, none⟩ = some (.int .i64 d0) ∧ w'.cell? ⟨w.heap.size + 1, 1, none⟩ = some (.int .i64 s0) ∧ w'.cell? ⟨w.heap.size + 1, 2, none⟩ = some (.int .i64 r0) ∧ w'.cell? ⟨w.heap.size + 1, 3, none⟩ = some (.int .i64 f0) ∧ w'.cell? ⟨w.heap.size + 1, 4, none⟩ = some (.int .i64 i0) ∧ w'.cell? ⟨w.heap.size + 1, 5, none⟩ = some (.int .i64 k0) ∧ w'.cell? ⟨w.heap.size + 1, 6, none⟩ = some (.int .i64 l0) ∧ w'.cell? ⟨w.heap.size + 1, 7, none⟩ = some (.int .i64 t0) ∧ w'.cell? ⟨w.heap.size + 1, 8, none⟩ = some (.int .i64 lo0) ∧ w'.cell? ⟨w.heap.size + 1, 9, none⟩ = some (.int .i64 hi0) ∧ w'.cell? ⟨w.heap.size + 1, 10, none⟩ = some (.int .i64 a0) ∧ w'.cell? ⟨w.heap.size + 1, 11, none⟩ = some (.int .i64 x0) ∧ w'.cell? ⟨w.heap.size + 1, 12, none⟩ = some (.int .i64 y0) ∧ w'.cell? ⟨w.heap.size + 1, 13, none⟩ = some (.int .i64 z0)) (first
    | (with_reducible exact HS.out _ EX)
    | (with_reducible exact HS.out _ (ext_setsS EX (by first | exact Nat.le_refl _ | exact Below.size (by assumption))))
    | (with_reducible exact HS.out _ (Ext.trans EX (Ext.alloc _ _)))) (first
    | (go_at_call 29; (with_reducible refine (given_any _).mono ?_); rintro e w5 ⟨rfl, b5, e5⟩; have EX : Ext W0 w5 := (by first | with_reducible exact Ext.trans EX e5 | with_reducible exact Ext.trans (Ext.trans (Ext.alloc _ _) (Ext.drew _)) e5); (first | have b5' : Blk w5 W0.heap.size 22 #[.slice cA cn cc] := b5 | have b5' : Blk w5 (W0.heap.size + 1) 22 #[.slice cA cn cc] := (by have hb5 := b5; simp only [World.size_drew, World.size_alloc] at hb5; exact hb5)))
    | (go_at_call 28; (first | with_reducible refine (HFO.out _ _ _ _ (Ext.trans X0.out EX) b5' (B1.out.ext EX) (B2.out.ext EX)).mono ?_ | with_reducible refine (HFO.out _ _ _ _ (Ext.trans X0.out (Ext.trans EX (Ext.alloc _ _))) (b5'.alloc _) (B1.out.ext (Ext.trans EX (Ext.alloc _ _))) (B2.out.ext (Ext.trans EX (Ext.alloc _ _)))).mono ?_); rintro e w7 ⟨vS, rfl, ⟨cA5, cc5, aA5, ac5, rA5, rc5, tA5, tc5, rfl, m1, m2, m3, m4, m5⟩, hlens, e7⟩; have EX : Ext W0 w7 := (by first | with_reducible exact Ext.trans EX e7 | with_reducible exact Ext.trans (Ext.trans EX (Ext.alloc _ _)) e7); clear hlens; (first | (with_reducible have BB := (Blk.new _ 33 #[.slice none 0 0, .slice none 0 0, .slice none 0 0, .int .i64 0, .slice none 0 0, .int .i64 0]).ext e7; have bb0 : w7.cell? ⟨_, 0, none⟩ = some (.slice none 0 0) := BB.cell 0; have bf0 : w7.frozen? ⟨_, 0, none⟩ = false := BB.frozen 0; have bb1 : w7.cell? ⟨_, 1, none⟩ = some (.slice none 0 0) := BB.cell 1; have bf1 : w7.frozen? ⟨_, 1, none⟩ = false := BB.frozen 1; have bb2 : w7.cell? ⟨_, 2, none⟩ = some (.slice none 0 0) := BB.cell 2; have bf2 : w7.frozen? ⟨_, 2, none⟩ = false := BB.frozen 2; have bb3 : w7.cell? ⟨_, 3, none⟩ = some (.int .i64 0) := BB.cell 3; have bf3 : w7.frozen? ⟨_, 3, none⟩ = false := BB.frozen 3; have bb4 : w7.cell? ⟨_, 4, none⟩ = some (.slice none 0 0) := BB.cell 4; have bf4 : w7.frozen? ⟨_, 4, none⟩ = false := BB.frozen 4; have bb5 : w7.cell? ⟨_, 5, none⟩ = some (.int .i64 0) := BB.cell 5; have bf5 : w7.frozen? ⟨_, 5, none⟩ = false := BB.frozen 5) | (with_reducible have BB := (Blk.new _ 33 #[.slice none 0 0, .slice none 0 0, .slice none 0 0, .int .i64 0, .slice none 0 0, .int .i64 0]).drew.ext (Ext.trans e5 e7); have bb0 : w7.cell? ⟨_, 0, none⟩ = some (.slice none 0 0) := BB.cell 0; have bf0 : w7.frozen? ⟨_, 0, none⟩ = false := BB.frozen 0; have bb1 : w7.cell? ⟨_, 1, none⟩ = some (.slice none 0 0) := BB.cell 1; have bf1 : w7.frozen? ⟨_, 1, none⟩ = false := BB.frozen 1; have bb2 : w7.cell? ⟨_, 2, none⟩ = some (.slice none 0 0) := BB.cell 2; have bf2 : w7.frozen? ⟨_, 2, none⟩ = false := BB.frozen 2; have bb3 : w7.cell? ⟨_, 3, none⟩ = some (.int .i64 0) := BB.cell 3; have bf3 : w7.frozen? ⟨_, 3, none⟩ = false := BB.frozen 3; have bb4 : w7.cell? ⟨_, 4, none⟩ = some (.slice none 0 0) := BB.cell 4; have bf4 : w7.frozen? ⟨_, 4, none⟩ = false := BB.frozen 4; have bb5 : w7.cell? ⟨_, 5, none⟩ = some (.int .i64 0) := BB.cell 5; have bf5 : w7.frozen? ⟨_, 5, none⟩ = false := BB.frozen 5) | skip)))
  all_goals (
    refine gen_the fun W9 h9 => ?_
    have E7 : Hid (Ext W0 W9) := hide (by rw [h9]; first | (with_reducible exact ext_setsS EX (by first | exact Nat.le_refl _ | exact Below.size (by assumption))) | exact Ext.trans EX (Ext.alloc _ _))
    first
      | have B9 : Blk W9 w5.heap.size 33 #[.slice cA5 F.ch.length cc5, .slice aA5 F.asd.length ac5, .slice rA5 F.arr.length rc5, .int .i64 F.w.beg, .slice tA5 F.w.stalls.length tc5, .int .i64 (F.w.at_ + F.w.buf)] := (by rewrite [h9]; with_reducible exact blk_setsS BB)
      | have B9 : Blk W9 W0.heap.size 33 #[.slice cA5 F.ch.length cc5, .slice aA5 F.asd.length ac5, .slice rA5 F.arr.length rc5, .int .i64 F.w.beg, .slice tA5 F.w.stalls.length tc5, .int .i64 (F.w.at_ + F.w.buf)] := (by rewrite [h9]; with_reducible exact blk_setsS BB)
      | have B9 : Blk W9 w7.heap.size 33 #[.slice cA5 F.ch.length cc5, .slice aA5 F.asd.length ac5, .slice rA5 F.arr.length rc5, .int .i64 F.w.beg, .slice tA5 F.w.stalls.length tc5, .int .i64 (F.w.at_ + F.w.buf)] := (by rewrite [h9]; with_reducible exact Blk.new _ _ _)
    have c4 := B9.cell 4
    clear h9 EX HS HFO B9 m1 m2 m3 m4 m5
    have hq : ((F.w.stalls.length : Int) == 0) = decide (F.w.stalls.length = 0) := by
      by_cases hz : F.w.stalls.length = 0
      · simp [hz]
      · simp only [hz, decide_false, beq_eq_false_iff_ne]
        omega
    have HQ := hide hq
    clear hq
    go_wp2_with fail
    go_ret
    exact ⟨ret_bool HQ.out, Ext.trans X0.out E7.out⟩)
end
end Go.Proofs.Ytjbgkoeojfmkkaa
namespace Go.Proofs.Ytjbgkoeojfmkkaa
open Go.RowKit
theorem ret_pair {a c : Bool} {b d : Int} (h1 : a = c) (h2 : b = d) : Ending.returned (.tuple #[.bool a, .int .i64 b]) = .returned (.tuple #[.bool c, .int .i64 d]) := by rw [h1, h2]
section
variable {lA : Option Addr} {ln lc : Nat} {sA : Option Addr} {sn sc : Nat} {qA : Option Addr} {qn qc : Nat} {w : World} {L : List Int} {S : List (List Int)} {Q : List Int} {C : List Int}
/-- Does it stall nowhere by a promise? -/
def surB (L : List Int) (S : List (List Int)) (C : List Int) (d s r f gw gb : Int) : Bool := decide ((folF f s r L S (gvF C) (prT gw gb d) L.length).w.stalls.length = 0)

set_option maxRecDepth 100000 in
set_option maxHeartbeats 8000000 in
theorem keySure_any {d0 s0 r0 f0 i0 k0 l0 t0 lo0 hi0 a0 x0 y0 z0 gw gb : Int} {cA : Option Addr} {cn cc : Nat} (h : Shw w lA ln lc sA sn sc qA qn qc L S Q) (hC : At w 1 e64 cA cn cc C) :
    Calls Try.prog 16 #[shV lA ln lc sA sn sc qA qn qc, plV d0 s0 r0 f0 i0 k0 l0 t0 lo0 hi0 a0 x0 y0 z0, .agg #[.int .i64 gw, .int .i64 gb], .slice cA cn cc] w fun e w' => e = .returned (.tuple #[.bool (if surF L S Q C d0 s0 r0 f0 i0 k0 l0 t0 lo0 hi0 a0 x0 y0 z0 gw gb = 0 then surB L S C d0 s0 r0 f0 gw gb else false), .int .i64 (surF L S Q C d0 s0 r0 f0 i0 k0 l0 t0 lo0 hi0 a0 x0 y0 z0 gw gb)]) ∧ Ext w w' := by
  have HF := hide (fun (W : World) (hW : Ext w W) => sureFault_any (d := d0) (s := s0) (r := r0) (f := f0) (i := i0) (k := k0) (l := l0) (t := t0) (lo := lo0) (hi := hi0) (a := a0) (x := x0) (y := y0) (z := z0) (gw := gw) (gb := gb) (h.ext hW) (hC.ext hW))
  have HS : Hid (surF L S Q C d0 s0 r0 f0 i0 k0 l0 t0 lo0 hi0 a0 x0 y0 z0 gw gb = 0 → ∀ W, Ext w W → Calls Try.prog 44 #[shV lA ln lc sA sn sc qA qn qc, plV d0 s0 r0 f0 i0 k0 l0 t0 lo0 hi0 a0 x0 y0 z0, .agg #[.int .i64 gw, .int .i64 gb], .slice cA cn cc] W fun e w' => e = .returned (.bool (surB L S C d0 s0 r0 f0 gw gb)) ∧ Ext W w') := hide (fun h1 W hW => by
    obtain ⟨z1, z2, z3, z4, z5, _⟩ := surF_zero h1
    exact sure_any z1 z2 z3 ⟨z4.1, z4.2.1⟩ ⟨z4.2.2.1, z4.2.2.2⟩ z5 (h.ext hW) (hC.ext hW))
  generalize surF L S Q C d0 s0 r0 f0 i0 k0 l0 t0 lo0 hi0 a0 x0 y0 z0 gw gb = u at *
  generalize surB L S C d0 s0 r0 f0 gw gb = sb at *
  generalize hv : (if u = 0 then sb else false) = v at *
  have HV := hide hv
  clear hv h hC
  have hb0 := ((Blk.new w 25 #[.slice lA ln lc, .slice sA sn sc, .slice qA qn qc]).alloc (.cells #[.int .i64 d0, .int .i64 s0, .int .i64 r0, .int .i64 f0, .int .i64 i0, .int .i64 k0, .int .i64 l0, .int .i64 t0, .int .i64 lo0, .int .i64 hi0, .int .i64 a0, .int .i64 x0, .int .i64 y0, .int .i64 z0] 30)).alloc (.cells #[.int .i64 gw, .int .i64 gb] 44)
  have hb1 := (Blk.new (w.alloc (.cells #[.slice lA ln lc, .slice sA sn sc, .slice qA qn qc] 25)) 30 #[.int .i64 d0, .int .i64 s0, .int .i64 r0, .int .i64 f0, .int .i64 i0, .int .i64 k0, .int .i64 l0, .int .i64 t0, .int .i64 lo0, .int .i64 hi0, .int .i64 a0, .int .i64 x0, .int .i64 y0, .int .i64 z0]).alloc (.cells #[.int .i64 gw, .int .i64 gb] 44)
  have hb2 := Blk.new ((w.alloc (.cells #[.slice lA ln lc, .slice sA sn sc, .slice qA qn qc] 25)).alloc (.cells #[.int .i64 d0, .int .i64 s0, .int .i64 r0, .int .i64 f0, .int .i64 i0, .int .i64 k0, .int .i64 l0, .int .i64 t0, .int .i64 lo0, .int .i64 hi0, .int .i64 a0, .int .i64 x0, .int .i64 y0, .int .i64 z0] 30)) 44 #[.int .i64 gw, .int .i64 gb]
  simp only [World.size_alloc] at hb1 hb2
  have B0 := hide hb0
  have B1 := hide hb1
  have B2 := hide hb2
  clear hb0 hb1 hb2
  have HX : Hid (Ext w (((w.alloc (.cells #[.slice lA ln lc, .slice sA sn sc, .slice qA qn qc] 25)).alloc (.cells #[.int .i64 d0, .int .i64 s0, .int .i64 r0, .int .i64 f0, .int .i64 i0, .int .i64 k0, .int .i64 l0, .int .i64 t0, .int .i64 lo0, .int .i64 hi0, .int .i64 a0, .int .i64 x0, .int .i64 y0, .int .i64 z0] 30)).alloc (.cells #[.int .i64 gw, .int .i64 gb] 44))) := hide (ext_alloc (ext_alloc (Ext.alloc _ _) _) _)
  go_enter Try.func16, Try.ntmps16
  go_wp2_with fail
  refine (HF.out _ HX.out).mono ?_
  rintro e w1 ⟨rfl, e1⟩
  have E1 := hide (Ext.trans HX.out e1)
  have B0 := hide (B0.out.ext e1)
  have B1 := hide (B1.out.ext e1)
  have B2 := hide (B2.out.ext e1)
  clear e1 HX
  by_cases h1 : u = 0
  rotate_left
  · have i1 : (u != 0) = true := by simp [h1]
    have HVV : Hid (v = false) := hide (by rw [← HV.out, if_neg h1])
    clear h1
    go_wp2_with fail
    go_ret2
    exact ⟨ret_pair HVV.out.symm rfl, E1.out⟩
  have i1 : (u != 0) = false := by simp [h1]
  have HVV : Hid (v = sb) := hide (by rw [← HV.out, if_pos h1])
  have HS2 := hide (HS.out h1)
  have H1 := hide h1
  clear h1 HS
  have r0 := B0.out.cell 0
  have r1 := B0.out.cell 1
  have r2 := B0.out.cell 2
  have p0 := B1.out.cell 0
  have p1 := B1.out.cell 1
  have p2 := B1.out.cell 2
  have p3 := B1.out.cell 3
  have p4 := B1.out.cell 4
  have p5 := B1.out.cell 5
  have p6 := B1.out.cell 6
  have p7 := B1.out.cell 7
  have p8 := B1.out.cell 8
  have p9 := B1.out.cell 9
  have p10 := B1.out.cell 10
  have p11 := B1.out.cell 11
  have p12 := B1.out.cell 12
  have p13 := B1.out.cell 13
  have q0 := B2.out.cell 0
  have q1 := B2.out.cell 1
  go_wp2_with fail
  refine (HS2.out _ E1.out).mono ?_
  rintro e w2 ⟨rfl, e2⟩
  have E2 := hide (Ext.trans E1.out e2)
  clear e2 r0 r1 r2 p0 p1 p2 p3 p4 p5 p6 p7 p8 p9 p10 p11 p12 p13 q0 q1
  go_wp2_with fail
  go_ret2
  exact ⟨ret_pair HVV.out.symm H1.out.symm, E2.out⟩
set_option maxRecDepth 100000 in
set_option maxHeartbeats 8000000 in
theorem refSure_any {d0 s0 r0 f0 i0 k0 l0 t0 lo0 hi0 a0 x0 y0 z0 gw gb : Int} {cA : Option Addr} {cn cc : Nat} (h : Shw w lA ln lc sA sn sc qA qn qc L S Q) (hC : At w 1 e64 cA cn cc C) :
    Calls Try.prog 17 #[shV lA ln lc sA sn sc qA qn qc, plV d0 s0 r0 f0 i0 k0 l0 t0 lo0 hi0 a0 x0 y0 z0, .agg #[.int .i64 gw, .int .i64 gb], .slice cA cn cc] w fun e w' => e = .returned (.tuple #[.bool (if surF L S Q C d0 s0 r0 f0 i0 k0 l0 t0 lo0 hi0 a0 x0 y0 z0 gw gb = 0 then surB L S C d0 s0 r0 f0 gw gb else false), .int .i64 (surF L S Q C d0 s0 r0 f0 i0 k0 l0 t0 lo0 hi0 a0 x0 y0 z0 gw gb)]) ∧ Ext w w' := by
  have HF := hide (fun (W : World) (hW : Ext w W) => askSure_any (d := d0) (s := s0) (r := r0) (f := f0) (i := i0) (k := k0) (l := l0) (t := t0) (lo := lo0) (hi := hi0) (a := a0) (x := x0) (y := y0) (z := z0) (gw := gw) (gb := gb) (h.ext hW) (hC.ext hW))
  have hsb : surB L S C d0 s0 r0 f0 gw gb = decide ((folF f0 s0 r0 L S (gvF C) (prT gw gb d0) L.length).w.stalls.length = 0) := rfl
  have HS : Hid (surF L S Q C d0 s0 r0 f0 i0 k0 l0 t0 lo0 hi0 a0 x0 y0 z0 gw gb = 0 → ∀ W, Ext w W → Calls Try.prog 46 #[shV lA ln lc sA sn sc qA qn qc, .slice none 0 0, plV d0 s0 r0 f0 i0 k0 l0 t0 lo0 hi0 a0 x0 y0 z0, .slice cA cn cc, .agg #[.int .i64 gw, .int .i64 gb]] W (FolGives W L.length (folF f0 s0 r0 L S (gvF C) (prT gw gb d0) L.length))) := hide (fun h1 W hW => by
    obtain ⟨z1, z2, z3, z4, z5, _⟩ := surF_zero h1
    exact refFollow_sure z1 z2 z3 ⟨z4.1, z4.2.1⟩ ⟨z4.2.2.1, z4.2.2.2⟩ z5 (h.ext hW) (hC.ext hW))
  generalize surF L S Q C d0 s0 r0 f0 i0 k0 l0 t0 lo0 hi0 a0 x0 y0 z0 gw gb = u at *
  generalize surB L S C d0 s0 r0 f0 gw gb = sb at *
  generalize folF f0 s0 r0 L S (gvF C) (prT gw gb d0) L.length = F at *
  generalize hv : (if u = 0 then sb else false) = v at *
  have HV := hide hv
  have HSB := hide hsb
  clear hv hsb h hC
  have hb0 := ((Blk.new w 25 #[.slice lA ln lc, .slice sA sn sc, .slice qA qn qc]).alloc (.cells #[.int .i64 d0, .int .i64 s0, .int .i64 r0, .int .i64 f0, .int .i64 i0, .int .i64 k0, .int .i64 l0, .int .i64 t0, .int .i64 lo0, .int .i64 hi0, .int .i64 a0, .int .i64 x0, .int .i64 y0, .int .i64 z0] 30)).alloc (.cells #[.int .i64 gw, .int .i64 gb] 44)
  have hb1 := (Blk.new (w.alloc (.cells #[.slice lA ln lc, .slice sA sn sc, .slice qA qn qc] 25)) 30 #[.int .i64 d0, .int .i64 s0, .int .i64 r0, .int .i64 f0, .int .i64 i0, .int .i64 k0, .int .i64 l0, .int .i64 t0, .int .i64 lo0, .int .i64 hi0, .int .i64 a0, .int .i64 x0, .int .i64 y0, .int .i64 z0]).alloc (.cells #[.int .i64 gw, .int .i64 gb] 44)
  have hb2 := Blk.new ((w.alloc (.cells #[.slice lA ln lc, .slice sA sn sc, .slice qA qn qc] 25)).alloc (.cells #[.int .i64 d0, .int .i64 s0, .int .i64 r0, .int .i64 f0, .int .i64 i0, .int .i64 k0, .int .i64 l0, .int .i64 t0, .int .i64 lo0, .int .i64 hi0, .int .i64 a0, .int .i64 x0, .int .i64 y0, .int .i64 z0] 30)) 44 #[.int .i64 gw, .int .i64 gb]
  simp only [World.size_alloc] at hb1 hb2
  have B0 := hide hb0
  have B1 := hide hb1
  have B2 := hide hb2
  clear hb0 hb1 hb2
  have HX : Hid (Ext w (((w.alloc (.cells #[.slice lA ln lc, .slice sA sn sc, .slice qA qn qc] 25)).alloc (.cells #[.int .i64 d0, .int .i64 s0, .int .i64 r0, .int .i64 f0, .int .i64 i0, .int .i64 k0, .int .i64 l0, .int .i64 t0, .int .i64 lo0, .int .i64 hi0, .int .i64 a0, .int .i64 x0, .int .i64 y0, .int .i64 z0] 30)).alloc (.cells #[.int .i64 gw, .int .i64 gb] 44))) := hide (ext_alloc (ext_alloc (Ext.alloc _ _) _) _)
  go_enter Try.func17, Try.ntmps17
  go_wp2_with fail
  refine (HF.out _ HX.out).mono ?_
  rintro e w1 ⟨rfl, e1⟩
  have E1 := hide (Ext.trans HX.out e1)
  have B0 := hide (B0.out.ext e1)
  have B1 := hide (B1.out.ext e1)
  have B2 := hide (B2.out.ext e1)
  clear e1 HX
  by_cases h1 : u = 0
  rotate_left
  · have i1 : (u != 0) = true := by simp [h1]
    have HVV : Hid (v = false) := hide (by rw [← HV.out, if_neg h1])
    clear h1
    go_wp2_with fail
    go_ret2
    exact ⟨ret_pair HVV.out.symm rfl, E1.out⟩
  have i1 : (u != 0) = false := by simp [h1]
  have HVV : Hid (v = sb) := hide (by rw [← HV.out, if_pos h1])
  have HS2 := hide (HS.out h1)
  have H1 := hide h1
  clear h1 HS
  have r0 := B0.out.cell 0
  have r1 := B0.out.cell 1
  have r2 := B0.out.cell 2
  have p0 := B1.out.cell 0
  have p1 := B1.out.cell 1
  have p2 := B1.out.cell 2
  have p3 := B1.out.cell 3
  have p4 := B1.out.cell 4
  have p5 := B1.out.cell 5
  have p6 := B1.out.cell 6
  have p7 := B1.out.cell 7
  have p8 := B1.out.cell 8
  have p9 := B1.out.cell 9
  have p10 := B1.out.cell 10
  have p11 := B1.out.cell 11
  have p12 := B1.out.cell 12
  have p13 := B1.out.cell 13
  have q0 := B2.out.cell 0
  have q1 := B2.out.cell 1
  go_wp2_with fail
  refine (HS2.out _ E1.out).mono ?_
  rintro e w2 ⟨vS, rfl, ⟨cA5, cc5, aA5, ac5, rA5, rc5, tA5, tc5, rfl, _, _, _, _, _⟩, _, e2⟩
  have E2 := hide (Ext.trans E1.out e2)
  clear e2 r0 r1 r2 p0 p1 p2 p3 p4 p5 p6 p7 p8 p9 p10 p11 p12 p13 q0 q1
  have hf : ∀ W : World, Sem.run Try.prog (Instr.field 33 (.agg #[.slice cA5 L.length cc5, .slice aA5 L.length ac5, .slice rA5 L.length rc5, .int .i64 F.w.beg, .slice tA5 F.w.stalls.length tc5, .int .i64 (F.w.at_ + F.w.buf)]) 4) W = Result.ok (.slice tA5 F.w.stalls.length tc5) W := fun W => by first | rfl | (simp [Instr.field, go_sem]; done) | (unfold Instr.field; rfl)
  have hq : ((F.w.stalls.length : Int) == 0) = sb := by
    rw [HSB.out]
    by_cases hz : F.w.stalls.length = 0
    · simp [hz]
    · simp only [hz, decide_false, beq_eq_false_iff_ne]
      omega
  have HQ := hide hq
  clear hq
  go_wp2_with fail
  go_ret2
  exact ⟨ret_pair (HQ.out.trans HVV.out.symm) H1.out.symm, E2.out⟩
end
end Go.Proofs.Ytjbgkoeojfmkkaa
namespace Go.Proofs.Ytjbgkoeojfmkkaa
open Go.RowKit
theorem ret_three {a c d f : Int} {b e : Bool} (h1 : a = d) (h2 : b = e) (h3 : c = f) : Ending.returned (.tuple #[.int .i64 a, .bool b, .int .i64 c]) = .returned (.tuple #[.int .i64 d, .bool e, .int .i64 f]) := by rw [h1, h2, h3]
/-- The least Start that serves, of those that are tried. -/
def leaL (B : Int → Bool) : List Int → Int → Int × Bool
  | [], _ => (0, false)
  | x :: r, s => if 1000000000 < s then (0, false) else if B s = true then (s, true) else leaL B r (s + x)
theorem leaL_cons (B : Int → Bool) (x : Int) (r : List Int) (s : Int) : leaL B (x :: r) s = if 1000000000 < s then (0, false) else if B s = true then (s, true) else leaL B r (s + x) := rfl
section
variable {lA : Option Addr} {ln lc : Nat} {sA : Option Addr} {sn sc : Nat} {qA : Option Addr} {qn qc : Nat} {w : World} {L : List Int} {S : List (List Int)} {Q : List Int} {C : List Int}
/-- What Least answers. -/
def leaF (L : List Int) (S : List (List Int)) (C : List Int) (d r f gw gb u : Int) : Int × Bool := if u = 0 then leaL (fun s => surB L S C d s r f gw gb) L 1 else (0, false)

set_option maxRecDepth 100000 in
set_option maxHeartbeats 16000000 in
theorem keyLeast_any {d0 s0 r0 f0 i0 k0 l0 t0 lo0 hi0 a0 x0 y0 z0 gw gb : Int} {cA : Option Addr} {cn cc : Nat} (h : Shw w lA ln lc sA sn sc qA qn qc L S Q) (hC : At w 1 e64 cA cn cc C) :
    Calls Try.prog 18 #[shV lA ln lc sA sn sc qA qn qc, plV d0 s0 r0 f0 i0 k0 l0 t0 lo0 hi0 a0 x0 y0 z0, .agg #[.int .i64 gw, .int .i64 gb], .slice cA cn cc] w fun e w' => e = .returned (.tuple #[.int .i64 (leaF L S C d0 r0 f0 gw gb (surF L S Q C d0 s0 r0 f0 i0 k0 l0 t0 lo0 hi0 a0 x0 y0 z0 gw gb)).1, .bool (leaF L S C d0 r0 f0 gw gb (surF L S Q C d0 s0 r0 f0 i0 k0 l0 t0 lo0 hi0 a0 x0 y0 z0 gw gb)).2, .int .i64 (surF L S Q C d0 s0 r0 f0 i0 k0 l0 t0 lo0 hi0 a0 x0 y0 z0 gw gb)]) ∧ Ext w w' := by
  have HF := hide (fun (W : World) (hW : Ext w W) => sureFault_any (d := d0) (s := s0) (r := r0) (f := f0) (i := i0) (k := k0) (l := l0) (t := t0) (lo := lo0) (hi := hi0) (a := a0) (x := x0) (y := y0) (z := z0) (gw := gw) (gb := gb) (h.ext hW) (hC.ext hW))
  have HS : Hid (surF L S Q C d0 s0 r0 f0 i0 k0 l0 t0 lo0 hi0 a0 x0 y0 z0 gw gb = 0 → ∀ (s : Int) W, Ext w W → Calls Try.prog 44 #[shV lA ln lc sA sn sc qA qn qc, .agg #[.int .i64 d0, .int .i64 s, .int .i64 r0, .int .i64 f0, .int .i64 i0, .int .i64 k0, .int .i64 l0, .int .i64 t0, .int .i64 lo0, .int .i64 hi0, .int .i64 a0, .int .i64 x0, .int .i64 y0, .int .i64 z0], .agg #[.int .i64 gw, .int .i64 gb], .slice cA cn cc] W fun e w' => e = .returned (.bool (surB L S C d0 s r0 f0 gw gb)) ∧ Ext W w') := hide (fun h1 s W hW => by
    obtain ⟨z1, z2, z3, z4, z5, _⟩ := surF_zero h1
    exact sure_any z1 z2 z3 ⟨z4.1, z4.2.1⟩ ⟨z4.2.2.1, z4.2.2.2⟩ z5 (h.ext hW) (hC.ext hW))
  have HLO : Hid (surF L S Q C d0 s0 r0 f0 i0 k0 l0 t0 lo0 hi0 a0 x0 y0 z0 gw gb = 0 → L.length ≤ 200 ∧ ∀ i, i < L.length → 1 ≤ L.getD i 0 ∧ L.getD i 0 ≤ 1000000000) := hide (fun h1 => ⟨(filmF_ok (surF_zero h1).1).l1, (filmF_ok (surF_zero h1).1).lr⟩)
  have HLG := hide h.longs
  have HLL := hide h.longs.len
  have hlv : leaF L S C d0 r0 f0 gw gb (surF L S Q C d0 s0 r0 f0 i0 k0 l0 t0 lo0 hi0 a0 x0 y0 z0 gw gb) = if surF L S Q C d0 s0 r0 f0 i0 k0 l0 t0 lo0 hi0 a0 x0 y0 z0 gw gb = 0 then leaL (fun s => surB L S C d0 s r0 f0 gw gb) L 1 else (0, false) := rfl
  generalize leaF L S C d0 r0 f0 gw gb (surF L S Q C d0 s0 r0 f0 i0 k0 l0 t0 lo0 hi0 a0 x0 y0 z0 gw gb) = v at *
  generalize surF L S Q C d0 s0 r0 f0 i0 k0 l0 t0 lo0 hi0 a0 x0 y0 z0 gw gb = u at *
  generalize hB : (fun s => surB L S C d0 s r0 f0 gw gb) = sB at *
  have HB : Hid (∀ s, surB L S C d0 s r0 f0 gw gb = sB s) := hide (fun s => by rw [← hB])
  obtain ⟨vn, vb⟩ := v
  have HV := hide hlv
  clear hlv hB h hC
  have hb0 := ((Blk.new w 25 #[.slice lA ln lc, .slice sA sn sc, .slice qA qn qc]).alloc (.cells #[.int .i64 d0, .int .i64 s0, .int .i64 r0, .int .i64 f0, .int .i64 i0, .int .i64 k0, .int .i64 l0, .int .i64 t0, .int .i64 lo0, .int .i64 hi0, .int .i64 a0, .int .i64 x0, .int .i64 y0, .int .i64 z0] 30)).alloc (.cells #[.int .i64 gw, .int .i64 gb] 44)
  have hb1 := (Blk.new (w.alloc (.cells #[.slice lA ln lc, .slice sA sn sc, .slice qA qn qc] 25)) 30 #[.int .i64 d0, .int .i64 s0, .int .i64 r0, .int .i64 f0, .int .i64 i0, .int .i64 k0, .int .i64 l0, .int .i64 t0, .int .i64 lo0, .int .i64 hi0, .int .i64 a0, .int .i64 x0, .int .i64 y0, .int .i64 z0]).alloc (.cells #[.int .i64 gw, .int .i64 gb] 44)
  have hb2 := Blk.new ((w.alloc (.cells #[.slice lA ln lc, .slice sA sn sc, .slice qA qn qc] 25)).alloc (.cells #[.int .i64 d0, .int .i64 s0, .int .i64 r0, .int .i64 f0, .int .i64 i0, .int .i64 k0, .int .i64 l0, .int .i64 t0, .int .i64 lo0, .int .i64 hi0, .int .i64 a0, .int .i64 x0, .int .i64 y0, .int .i64 z0] 30)) 44 #[.int .i64 gw, .int .i64 gb]
  simp only [World.size_alloc] at hb1 hb2
  have B0 := hide hb0
  have B1 := hide hb1
  have B2 := hide hb2
  clear hb0 hb1 hb2
  have HX : Hid (Ext w (((w.alloc (.cells #[.slice lA ln lc, .slice sA sn sc, .slice qA qn qc] 25)).alloc (.cells #[.int .i64 d0, .int .i64 s0, .int .i64 r0, .int .i64 f0, .int .i64 i0, .int .i64 k0, .int .i64 l0, .int .i64 t0, .int .i64 lo0, .int .i64 hi0, .int .i64 a0, .int .i64 x0, .int .i64 y0, .int .i64 z0] 30)).alloc (.cells #[.int .i64 gw, .int .i64 gb] 44))) := hide (ext_alloc (ext_alloc (Ext.alloc _ _) _) _)
  go_enter Try.func18, Try.ntmps18
  go_wp2_with fail
  refine (HF.out _ HX.out).mono ?_
  rintro e w1 ⟨rfl, e1⟩
  have E1 := hide (Ext.trans HX.out e1)
  have A0 := hide (B0.out.ext e1)
  have A1 := hide (B1.out.ext e1)
  have A2 := hide (B2.out.ext e1)
  clear e1 HX B0 B1 B2
  by_cases h1 : u = 0
  rotate_left
  · have i1 : (u != 0) = true := by simp [h1]
    have HVV : Hid (vn = 0 ∧ vb = false) := hide (by have := HV.out; rw [if_neg h1] at this; exact Prod.mk.inj this)
    clear h1
    go_wp2_with fail
    go_ret3
    exact ⟨ret_three HVV.out.1.symm HVV.out.2.symm rfl, E1.out⟩
  have i1 : (u != 0) = false := by simp [h1]
  have HVV : Hid (leaL sB L 1 = (vn, vb)) := hide (by have := HV.out; rw [if_pos h1] at this; exact this.symm)
  have HS2 := hide (HS.out h1)
  obtain ⟨hl1, hl2⟩ := HLO.out h1
  have HL2 := hide hl2
  have H1 := hide h1
  have hln : ln ≤ 200 := by have := HLL.out; omega
  clear h1 HS HV HLO hl1 hl2
  have f1 := A1.out.frozen 1
  have p1 := A1.out.cell 1
  go_upto_region 5 with (fail)
  refine gen_wpC fun W2 h2 => ?_
  have T2 := hide (show Tw w1 W2 (w.heap.size + 1) none from by rw [h2]; exact Tw.set_ _ _ _ _ _)
  have G1 := hide (show Blk W2 (w.heap.size + 1) 30 #[.int .i64 d0, .int .i64 1, .int .i64 r0, .int .i64 f0, .int .i64 i0, .int .i64 k0, .int .i64 l0, .int .i64 t0, .int .i64 lo0, .int .i64 hi0, .int .i64 a0, .int .i64 x0, .int .i64 y0, .int .i64 z0] from by rw [h2]; exact A1.out.set_ 1 _)
  clear h2 f1 p1
  have r0' := (T2.out.blk A0.out (by omega) (by simp)).cell 0
  go_wp2_with fail
  go_loopw [26] (fun ri wr => ∃ (k : Nat) (s : Int), k ≤ ln ∧ ri = .int .i64 k ∧ (1 ≤ s ∧ s ≤ 2000000000) ∧ Hid (leaL sB (L.drop k) s = (vn, vb)) ∧ Hid (Blk wr (w.heap.size + 1) 30 #[.int .i64 d0, .int .i64 s, .int .i64 r0, .int .i64 f0, .int .i64 i0, .int .i64 k0, .int .i64 l0, .int .i64 t0, .int .i64 lo0, .int .i64 hi0, .int .i64 a0, .int .i64 x0, .int .i64 y0, .int .i64 z0]) ∧ Hid (Tw w1 wr (w.heap.size + 1) none)) (fun ri _ => ln - (intOf ri).toNat)
  case atStart => exact ⟨0, 1, by omega, rfl, by omega, hide (by rw [List.drop_zero]; exact HVV.out), G1, T2⟩
  case round =>
    clear G1 T2 HVV r0'
    obtain ⟨k, s, hk, rfl, ⟨hs1, hs2⟩, HK, C1, D2⟩ := hrel
    have C0 := hide (D2.out.blk A0.out (by omega) (by simp))
    have C2 := hide (D2.out.blk A2.out (by omega) (by simp))
    have X2 := hide (Below.trans E1.out (D2.out.below E1.out.size (by omega) (fun b hb => by cases hb)))
    by_cases hlt : k < ln
    · obtain ⟨b, off, rfl, _⟩ := HLG.out.addr (by omega)
      have a1 := (HLG.out.ext X2.out).num hlt
      have hk2 := HK.out
      rw [drop_consA L k 0 (by have := HLL.out; omega), leaL_cons] at hk2
      obtain ⟨hx1, hx2⟩ := HL2.out k (by have := HLL.out; omega)
      generalize L.getD k 0 = x at *
      by_cases hbig : 1000000000 < s
      · rw [if_pos hbig] at hk2
        have HE := hide (Prod.mk.inj hk2)
        have i2 : decide (1000000000 < s) = true := by simp [hbig]
        have p1 := C1.out.cell 1
        clear hk2 hbig HK
        go_wp2_with fail
        go_ret3
        exact ⟨ret_three HE.out.1 HE.out.2 H1.out.symm, X2.out⟩
      · rw [if_neg hbig] at hk2
        have i2 : decide (1000000000 < s) = false := by simp; omega
        have HSS := hide (HS2.out s)
        rw [HB.out s] at HSS
        generalize sB s = bb at *
        clear HK
        have r0 := C0.out.cell 0
        have r1 := C0.out.cell 1
        have r2 := C0.out.cell 2
        have p0 := C1.out.cell 0
        have p1 := C1.out.cell 1
        have p2 := C1.out.cell 2
        have p3 := C1.out.cell 3
        have p4 := C1.out.cell 4
        have p5 := C1.out.cell 5
        have p6 := C1.out.cell 6
        have p7 := C1.out.cell 7
        have p8 := C1.out.cell 8
        have p9 := C1.out.cell 9
        have p10 := C1.out.cell 10
        have p11 := C1.out.cell 11
        have p12 := C1.out.cell 12
        have p13 := C1.out.cell 13
        have q0 := C2.out.cell 0
        have q1 := C2.out.cell 1
        go_wp2_with fail
        refine (HSS.out _ X2.out).mono ?_
        rintro e w3 ⟨rfl, e3⟩
        have F1 := hide (C1.out.ext e3)
        have T3 := hide (D2.out.trans (Tw.of_ext e3 (w.heap.size + 1) none))
        have X3 := hide (Ext.trans X2.out e3)
        clear e3 r0 r1 r2 p0 p1 p2 p3 p4 p5 p6 p7 p8 p9 p10 p11 p12 p13 q0 q1
        have p1 := F1.out.cell 1
        have f1 := F1.out.frozen 1
        cases bb
        · have HK2 := hide hk2
          have v1 : IntKind.i64.wrap (s + x) = s + x := by rw [IntKind.wrap_i64]; omega
          clear hk2
          go_wp2_with fail
          go_roundw
          case rel => exact ⟨k + 1, s + x, by omega, by go_num, by omega, hide (by simpa using HK2.out), hide (F1.out.set_ 1 _), hide (T3.out.trans (Tw.set_ _ _ _ _ _))⟩
          case measure => simp [intOf]; omega
        · have HE := hide (Prod.mk.inj (by simpa using hk2 : ((s, true) : Int × Bool) = (vn, vb)))
          clear hk2
          go_wp2_with fail
          go_ret3
          exact ⟨ret_three HE.out.1 HE.out.2 H1.out.symm, X3.out⟩
    · obtain rfl : k = ln := by omega
      have HE := hide (Prod.mk.inj (by have := HK.out; rw [List.drop_of_length_le (by have := HLL.out; omega)] at this; exact this : ((0, false) : Int × Bool) = (vn, vb)))
      clear HK hlt
      go_wp2_with fail
      go_ret3
      exact ⟨ret_three HE.out.1 HE.out.2 H1.out.symm, X2.out⟩
end
end Go.Proofs.Ytjbgkoeojfmkkaa
namespace Go.Proofs.Ytjbgkoeojfmkkaa
open Go.RowKit
section
variable {lA : Option Addr} {ln lc : Nat} {sA : Option Addr} {sn sc : Nat} {qA : Option Addr} {qn qc : Nat} {w : World} {L : List Int} {S : List (List Int)} {Q : List Int} {C : List Int}
set_option maxRecDepth 100000 in
set_option maxHeartbeats 16000000 in
theorem refLeast_any {d0 s0 r0 f0 i0 k0 l0 t0 lo0 hi0 a0 x0 y0 z0 gw gb : Int} {cA : Option Addr} {cn cc : Nat} (h : Shw w lA ln lc sA sn sc qA qn qc L S Q) (hC : At w 1 e64 cA cn cc C) :
    Calls Try.prog 19 #[shV lA ln lc sA sn sc qA qn qc, plV d0 s0 r0 f0 i0 k0 l0 t0 lo0 hi0 a0 x0 y0 z0, .agg #[.int .i64 gw, .int .i64 gb], .slice cA cn cc] w fun e w' => e = .returned (.tuple #[.int .i64 (leaF L S C d0 r0 f0 gw gb (surF L S Q C d0 s0 r0 f0 i0 k0 l0 t0 lo0 hi0 a0 x0 y0 z0 gw gb)).1, .bool (leaF L S C d0 r0 f0 gw gb (surF L S Q C d0 s0 r0 f0 i0 k0 l0 t0 lo0 hi0 a0 x0 y0 z0 gw gb)).2, .int .i64 (surF L S Q C d0 s0 r0 f0 i0 k0 l0 t0 lo0 hi0 a0 x0 y0 z0 gw gb)]) ∧ Ext w w' := by
  have HF := hide (fun (W : World) (hW : Ext w W) => askSure_any (d := d0) (s := s0) (r := r0) (f := f0) (i := i0) (k := k0) (l := l0) (t := t0) (lo := lo0) (hi := hi0) (a := a0) (x := x0) (y := y0) (z := z0) (gw := gw) (gb := gb) (h.ext hW) (hC.ext hW))
  have HS : Hid (surF L S Q C d0 s0 r0 f0 i0 k0 l0 t0 lo0 hi0 a0 x0 y0 z0 gw gb = 0 → ∀ (s : Int) W, Ext w W → Calls Try.prog 46 #[shV lA ln lc sA sn sc qA qn qc, .slice none 0 0, .agg #[.int .i64 d0, .int .i64 s, .int .i64 r0, .int .i64 f0, .int .i64 i0, .int .i64 k0, .int .i64 l0, .int .i64 t0, .int .i64 lo0, .int .i64 hi0, .int .i64 a0, .int .i64 x0, .int .i64 y0, .int .i64 z0], .slice cA cn cc, .agg #[.int .i64 gw, .int .i64 gb]] W fun e w' => ∃ (cA5 : Option Addr) (nc cc5 : Nat) (aA5 : Option Addr) (na ac5 : Nat) (rA5 : Option Addr) (nr rc5 : Nat) (tA5 : Option Addr) (nt tc5 : Nat) (bg en : Int), e = .returned (.agg #[.slice cA5 nc cc5, .slice aA5 na ac5, .slice rA5 nr rc5, .int .i64 bg, .slice tA5 nt tc5, .int .i64 en]) ∧ Hid (((nt : Int) == 0) = surB L S C d0 s r0 f0 gw gb) ∧ Ext W w') := hide (fun h1 s W hW => by
    obtain ⟨z1, z2, z3, z4, z5, _⟩ := surF_zero h1
    refine (refFollow_sure z1 z2 z3 ⟨z4.1, z4.2.1⟩ ⟨z4.2.2.1, z4.2.2.2⟩ z5 (h.ext hW) (hC.ext hW)).mono fun e w' hg => ?_
    obtain ⟨v, rfl, ⟨cA5, cc5, aA5, ac5, rA5, rc5, tA5, tc5, rfl, _⟩, _, e5⟩ := hg
    refine ⟨cA5, _, cc5, aA5, _, ac5, rA5, _, rc5, tA5, _, tc5, _, _, rfl, hide ?_, e5⟩
    unfold surB
    generalize (folF f0 s r0 L S (gvF C) (prT gw gb d0) L.length).w.stalls.length = nt
    by_cases hz : nt = 0
    · simp [hz]
    · simp only [hz, decide_false, beq_eq_false_iff_ne]
      omega)
  have HLO : Hid (surF L S Q C d0 s0 r0 f0 i0 k0 l0 t0 lo0 hi0 a0 x0 y0 z0 gw gb = 0 → L.length ≤ 200 ∧ ∀ i, i < L.length → 1 ≤ L.getD i 0 ∧ L.getD i 0 ≤ 1000000000) := hide (fun h1 => ⟨(filmF_ok (surF_zero h1).1).l1, (filmF_ok (surF_zero h1).1).lr⟩)
  have HLG := hide h.longs
  have HLL := hide h.longs.len
  have hlv : leaF L S C d0 r0 f0 gw gb (surF L S Q C d0 s0 r0 f0 i0 k0 l0 t0 lo0 hi0 a0 x0 y0 z0 gw gb) = if surF L S Q C d0 s0 r0 f0 i0 k0 l0 t0 lo0 hi0 a0 x0 y0 z0 gw gb = 0 then leaL (fun s => surB L S C d0 s r0 f0 gw gb) L 1 else (0, false) := rfl
  generalize leaF L S C d0 r0 f0 gw gb (surF L S Q C d0 s0 r0 f0 i0 k0 l0 t0 lo0 hi0 a0 x0 y0 z0 gw gb) = v at *
  generalize surF L S Q C d0 s0 r0 f0 i0 k0 l0 t0 lo0 hi0 a0 x0 y0 z0 gw gb = u at *
  generalize hB : (fun s => surB L S C d0 s r0 f0 gw gb) = sB at *
  have HB : Hid (∀ s, surB L S C d0 s r0 f0 gw gb = sB s) := hide (fun s => by rw [← hB])
  obtain ⟨vn, vb⟩ := v
  have HV := hide hlv
  clear hlv hB h hC
  have hb0 := ((Blk.new w 25 #[.slice lA ln lc, .slice sA sn sc, .slice qA qn qc]).alloc (.cells #[.int .i64 d0, .int .i64 s0, .int .i64 r0, .int .i64 f0, .int .i64 i0, .int .i64 k0, .int .i64 l0, .int .i64 t0, .int .i64 lo0, .int .i64 hi0, .int .i64 a0, .int .i64 x0, .int .i64 y0, .int .i64 z0] 30)).alloc (.cells #[.int .i64 gw, .int .i64 gb] 44)
  have hb1 := (Blk.new (w.alloc (.cells #[.slice lA ln lc, .slice sA sn sc, .slice qA qn qc] 25)) 30 #[.int .i64 d0, .int .i64 s0, .int .i64 r0, .int .i64 f0, .int .i64 i0, .int .i64 k0, .int .i64 l0, .int .i64 t0, .int .i64 lo0, .int .i64 hi0, .int .i64 a0, .int .i64 x0, .int .i64 y0, .int .i64 z0]).alloc (.cells #[.int .i64 gw, .int .i64 gb] 44)
  have hb2 := Blk.new ((w.alloc (.cells #[.slice lA ln lc, .slice sA sn sc, .slice qA qn qc] 25)).alloc (.cells #[.int .i64 d0, .int .i64 s0, .int .i64 r0, .int .i64 f0, .int .i64 i0, .int .i64 k0, .int .i64 l0, .int .i64 t0, .int .i64 lo0, .int .i64 hi0, .int .i64 a0, .int .i64 x0, .int .i64 y0, .int .i64 z0] 30)) 44 #[.int .i64 gw, .int .i64 gb]
  simp only [World.size_alloc] at hb1 hb2
  have B0 := hide hb0
  have B1 := hide hb1
  have B2 := hide hb2
  clear hb0 hb1 hb2
  have HX : Hid (Ext w (((w.alloc (.cells #[.slice lA ln lc, .slice sA sn sc, .slice qA qn qc] 25)).alloc (.cells #[.int .i64 d0, .int .i64 s0, .int .i64 r0, .int .i64 f0, .int .i64 i0, .int .i64 k0, .int .i64 l0, .int .i64 t0, .int .i64 lo0, .int .i64 hi0, .int .i64 a0, .int .i64 x0, .int .i64 y0, .int .i64 z0] 30)).alloc (.cells #[.int .i64 gw, .int .i64 gb] 44))) := hide (ext_alloc (ext_alloc (Ext.alloc _ _) _) _)
  go_enter Try.func19, Try.ntmps19
  go_wp2_with fail
  refine (HF.out _ HX.out).mono ?_
  rintro e w1 ⟨rfl, e1⟩
  have E1 := hide (Ext.trans HX.out e1)
  have A0 := hide (B0.out.ext e1)
  have A1 := hide (B1.out.ext e1)
  have A2 := hide (B2.out.ext e1)
  clear e1 HX B0 B1 B2
  by_cases h1 : u = 0
  rotate_left
  · have i1 : (u != 0) = true := by simp [h1]
    have HVV : Hid (vn = 0 ∧ vb = false) := hide (by have := HV.out; rw [if_neg h1] at this; exact Prod.mk.inj this)
    clear h1
    go_wp2_with fail
    go_ret3
    exact ⟨ret_three HVV.out.1.symm HVV.out.2.symm rfl, E1.out⟩
  have i1 : (u != 0) = false := by simp [h1]
  have HVV : Hid (leaL sB L 1 = (vn, vb)) := hide (by have := HV.out; rw [if_pos h1] at this; exact this.symm)
  have HS2 := hide (HS.out h1)
  obtain ⟨hl1, hl2⟩ := HLO.out h1
  have HL2 := hide hl2
  have H1 := hide h1
  have hln : ln ≤ 200 := by have := HLL.out; omega
  clear h1 HS HV HLO hl1 hl2
  have r0' := A0.out.cell 0
  go_wp2_with fail
  go_loopw [12, 26] (fun rs ri wr => ∃ (k : Nat) (s sp : Int), k ≤ ln ∧ ri = .int .i64 k ∧ rs = .int .i64 s ∧ (1 ≤ s ∧ s ≤ 2000000000) ∧ Hid (leaL sB (L.drop k) s = (vn, vb)) ∧ Hid (Blk wr (w.heap.size + 1) 30 #[.int .i64 d0, .int .i64 sp, .int .i64 r0, .int .i64 f0, .int .i64 i0, .int .i64 k0, .int .i64 l0, .int .i64 t0, .int .i64 lo0, .int .i64 hi0, .int .i64 a0, .int .i64 x0, .int .i64 y0, .int .i64 z0]) ∧ Hid (Tw w1 wr (w.heap.size + 1) none)) (fun _ ri _ => ln - (intOf ri).toNat)
  case atStart => exact ⟨0, 1, s0, by omega, rfl, rfl, by omega, hide (by rw [List.drop_zero]; exact HVV.out), A1, hide (Tw.refl _ _ _)⟩
  case round =>
    clear A1 HVV r0'
    obtain ⟨k, s, sp, hk, rfl, rfl, ⟨hs1, hs2⟩, HK, C1, D2⟩ := hrel
    have X2 := hide (Below.trans E1.out (D2.out.below E1.out.size (by omega) (fun b hb => by cases hb)))
    by_cases hlt : k < ln
    · obtain ⟨b, off, rfl, _⟩ := HLG.out.addr (by omega)
      have a1 := (HLG.out.ext X2.out).num hlt
      have hk2 := HK.out
      rw [drop_consA L k 0 (by have := HLL.out; omega), leaL_cons] at hk2
      obtain ⟨hx1, hx2⟩ := HL2.out k (by have := HLL.out; omega)
      generalize L.getD k 0 = x at *
      by_cases hbig : 1000000000 < s
      · rw [if_pos hbig] at hk2
        have HE := hide (Prod.mk.inj hk2)
        have i2 : decide (1000000000 < s) = true := by simp [hbig]
        clear hk2 hbig HK
        go_wp2_with fail
        go_ret3
        exact ⟨ret_three HE.out.1 HE.out.2 H1.out.symm, X2.out⟩
      · rw [if_neg hbig] at hk2
        have i2 : decide (1000000000 < s) = false := by simp; omega
        have HSS := hide (HS2.out s)
        rw [HB.out s] at HSS
        generalize sB s = bb at *
        clear HK
        have f1 := C1.out.frozen 1
        have p1 := C1.out.cell 1
        go_upto_region 10 with (fail)
        refine gen_wpC fun W3 h3 => ?_
        have T3 := hide (show Tw w1 W3 (w.heap.size + 1) none from by rw [h3]; exact D2.out.trans (Tw.set_ _ _ _ _ _))
        have F1 := hide (show Blk W3 (w.heap.size + 1) 30 #[.int .i64 d0, .int .i64 s, .int .i64 r0, .int .i64 f0, .int .i64 i0, .int .i64 k0, .int .i64 l0, .int .i64 t0, .int .i64 lo0, .int .i64 hi0, .int .i64 a0, .int .i64 x0, .int .i64 y0, .int .i64 z0] from by rw [h3]; exact C1.out.set_ 1 _)
        clear h3 f1 p1 a1
        have X3 := hide (Below.trans E1.out (T3.out.below E1.out.size (by omega) (fun b hb => by cases hb)))
        have C0 := hide (T3.out.blk A0.out (by omega) (by simp))
        have C2 := hide (T3.out.blk A2.out (by omega) (by simp))
        have r0' := C0.out.cell 0
        have r1' := C0.out.cell 1
        have r2' := C0.out.cell 2
        have p0' := F1.out.cell 0
        have p1' := F1.out.cell 1
        have p2' := F1.out.cell 2
        have p3' := F1.out.cell 3
        have p4' := F1.out.cell 4
        have p5' := F1.out.cell 5
        have p6' := F1.out.cell 6
        have p7' := F1.out.cell 7
        have p8' := F1.out.cell 8
        have p9' := F1.out.cell 9
        have p10' := F1.out.cell 10
        have p11' := F1.out.cell 11
        have p12' := F1.out.cell 12
        have p13' := F1.out.cell 13
        have q0' := C2.out.cell 0
        have q1' := C2.out.cell 1
        go_wp2_with fail
        refine (HSS.out _ X3.out).mono ?_
        rintro e w4 ⟨cA5, nc, cc5, aA5, na, ac5, rA5, nr, rc5, tA5, nt, tc5, bg, en, rfl, hq, e4⟩
        have hf : ∀ W : World, Sem.run Try.prog (Instr.field 33 (.agg #[.slice cA5 nc cc5, .slice aA5 na ac5, .slice rA5 nr rc5, .int .i64 bg, .slice tA5 nt tc5, .int .i64 en]) 4) W = Result.ok (.slice tA5 nt tc5) W := fun W => by first | rfl | (simp [Instr.field, go_sem]; done)
        have F4 := hide (F1.out.ext e4)
        have T4 := hide (T3.out.trans (Tw.of_ext e4 (w.heap.size + 1) none))
        have X4 := hide (Ext.trans X3.out e4)
        clear e4 r0' r1' r2' p0' p1' p2' p3' p4' p5' p6' p7' p8' p9' p10' p11' p12' p13' q0' q1'
        have hq2 := hq.out
        cases bb
        · have HK2 := hide hk2
          have v1 : IntKind.i64.wrap (s + x) = s + x := by rw [IntKind.wrap_i64]; omega
          clear hk2
          go_wp2_with fail
          go_roundw
          case rel => exact ⟨k + 1, s + x, s, by omega, by go_num, rfl, by omega, hide (by simpa using HK2.out), F4, T4⟩
          case measure => simp [intOf]; omega
        · have HE := hide (Prod.mk.inj (by simpa using hk2 : ((s, true) : Int × Bool) = (vn, vb)))
          clear hk2
          go_wp2_with fail
          go_ret3
          exact ⟨ret_three HE.out.1 HE.out.2 H1.out.symm, X4.out⟩
    · obtain rfl : k = ln := by omega
      have HE := hide (Prod.mk.inj (by have := HK.out; rw [List.drop_of_length_le (by have := HLL.out; omega)] at this; exact this : ((0, false) : Int × Bool) = (vn, vb)))
      clear HK hlt
      go_wp2_with fail
      go_ret3
      exact ⟨ret_three HE.out.1 HE.out.2 H1.out.symm, X2.out⟩
end
end Go.Proofs.Ytjbgkoeojfmkkaa
