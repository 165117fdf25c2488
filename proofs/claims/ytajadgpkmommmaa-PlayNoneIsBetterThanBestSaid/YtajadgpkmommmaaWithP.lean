/- Walk: With of the program. Conditions as stated. -/
import Derived.Test.YtajadgpkmommmaaFolC
import Derived.Test.YtajadgpkmommmaaEndsB
import Derived.Test.YtajadgpkmommmaaRunB
import Derived.Test.YtajadgpkmommmaaRunC
namespace Go.Proofs.Ytajadgpkmommmaa
open Go.RowKit

/-- What With does with what is right. -/
@[reducible] def gvF (C : List Int) : Nat → Int → Int → List (Int × Int) → Int → Int := fun n _ _ _ _ => C.getD n 0
@[reducible] def trF (T : List (Int × Int)) (d : Int) : Int → Int → Int := fun t z => endsP T (t + d) z
section
variable {lA : Option Addr} {ln lc : Nat} {sA : Option Addr} {sn sc : Nat} {qA : Option Addr} {qn qc : Nat} {L : List Int} {S : List (List Int)} {Q : List Int} {T : List (Int × Int)} {C : List Int} {d0 s0 r0 f0 i0 k0 l0 t0 lo0 hi0 a0 x0 y0 z0 : Int} {w : World}
/-- A run on a trace goes well. -/
theorem run_trace (hF : filmF L S Q = 0) (hT : trcF T = 0) (hd : 0 ≤ d0 ∧ d0 ≤ 100000) (hC : chsF L.length S.length C = 0) : RunOk f0 s0 r0 L S (gvF C) (trF T d0) 1000000000000 1000100000 := by
  have ok := filmF_ok hF
  refine ⟨fun i hi => ⟨by have := (ok.lr i hi).1; omega, (ok.lr i hi).2⟩, ok.l1, by omega, by omega, fun n hn h1 h2 h3 => ?_⟩
  have hl := ok.l1
  have hc : (C.length : Int) = (L.length : Int) ∧ rngB 0 ((S.length : Int) - 1) C = false := by
    unfold chsF at hC
    by_cases q1 : (C.length : Int) ≠ (L.length : Int)
    · rw [if_pos q1] at hC; omega
    rw [if_neg q1] at hC
    by_cases q2 : rngB 0 ((S.length : Int) - 1) C = true
    · rw [if_pos q2] at hC; omega
    exact ⟨by omega, by simpa using q2⟩
  have hr := rngB_false hc.2 n (by omega)
  have e1 : rN f0 s0 r0 L S (gvF C) (trF T d0) n = C.getD n 0 := rfl
  have hz := ok.sr (C.getD n 0).toNat (by omega) n hn
  have hb := ask_bd (full := f0) (long := L.getD n 0) h1
  have hX := (ok.lr n hn)
  have e2 : asN f0 s0 r0 L S (gvF C) (trF T d0) n = askT f0 (L.getD n 0) (folF f0 s0 r0 L S (gvF C) (trF T d0) n).w := rfl
  have e3 : tN f0 s0 r0 L S (gvF C) (trF T d0) n = endsP T (askT f0 (L.getD n 0) (folF f0 s0 r0 L S (gvF C) (trF T d0) n).w + d0) ((S.getD (C.getD n 0).toNat []).getD n 0) := rfl
  have hn2 : (n : Int) * 1000100000 ≤ 200 * 1000100000 := by omega
  have he := ends_bd hT (f := askT f0 (L.getD n 0) (folF f0 s0 r0 L S (gvF C) (trF T d0) n).w + d0) (b := (S.getD (C.getD n 0).toNat []).getD n 0) ⟨by omega, by omega⟩ ⟨by omega, by omega⟩
  rw [e1, e2, e3]
  refine ⟨⟨by omega, by omega⟩, by omega, by omega⟩

theorem getD_over {α : Type} (l : List α) (d : α) (i : Nat) (h : l.length ≤ i) : l.getD i d = d := by simp [List.getD, List.getElem?_eq_none h]
theorem chsF_zero {n m : Int} (h : chsF n m C = 0) : (C.length : Int) = n ∧ rngB 0 (m - 1) C = false := by
  unfold chsF at h
  by_cases q1 : (C.length : Int) ≠ n
  · rw [if_pos q1] at h; omega
  rw [if_neg q1] at h
  by_cases q2 : rngB 0 (m - 1) C = true
  · rw [if_pos q2] at h; omega
  exact ⟨by omega, by simpa using q2⟩
theorem size_any (ok : FilmOk L S Q) (i j : Nat) : 0 ≤ (S.getD i []).getD j 0 ∧ (S.getD i []).getD j 0 ≤ 1000000000 := by
  by_cases hi : i < S.length
  · by_cases hj : j < L.length
    · have := ok.sr i hi j hj; omega
    · have hl := ok.sl i hi
      rw [show (S.getD i []).getD j 0 = 0 by rw [getD_over _ _ _ (by omega)]]; omega
  · rw [show S.getD i [] = [] from getD_over _ _ _ (by omega)]; simp
theorem follow_with {W : World} {q1 q2 q3 : Nat} {tA : Option Addr} {tn tc : Nat} {cA : Option Addr} {cn cc : Nat} (hF : filmF L S Q = 0) (hT0 : trcF T = 0) (hd : 0 ≤ d0 ∧ d0 ≤ 100000) (hf : 1 ≤ f0 ∧ f0 ≤ 1000000000) (hC0 : chsF L.length S.length C = 0)
    (h : Shw W lA ln lc sA sn sc qA qn qc L S Q) (hT : At W 2 e2 tA tn tc T) (hC : At W 1 e64 cA cn cc C) (b1 : Blk W q1 22 #[.slice cA cn cc]) (b2 : Blk W q2 26 #[.slice tA tn tc]) (b3 : Blk W q3 30 #[.int .i64 d0, .int .i64 s0, .int .i64 r0, .int .i64 f0, .int .i64 i0, .int .i64 k0, .int .i64 l0, .int .i64 t0, .int .i64 lo0, .int .i64 hi0, .int .i64 a0, .int .i64 x0, .int .i64 y0, .int .i64 z0]) :
    Calls Try.prog 19 #[shV lA ln lc sA sn sc qA qn qc, .agg #[.int .i64 d0, .int .i64 s0, .int .i64 r0, .int .i64 f0, .int .i64 i0, .int .i64 k0, .int .i64 l0, .int .i64 t0, .int .i64 lo0, .int .i64 hi0, .int .i64 a0, .int .i64 x0, .int .i64 y0, .int .i64 z0], .func (.func 48) #[] #[.pointer (some ⟨q1, 0, none⟩)], .func (.func 45) #[] #[.pointer (some ⟨q2, 0, none⟩), .pointer (some ⟨q3, 0, none⟩)]] W (FolGives W L.length (folF f0 s0 r0 L S (gvF C) (trF T d0) L.length)) := by
  have ok := filmF_ok hF
  have hR := run_trace (f0 := f0) (s0 := s0) (r0 := r0) hF hT0 hd hC0
  obtain ⟨hc1, hc2⟩ := chsF_zero hC0
  have hcl := hC.len
  refine follow_any (M := 1000000000000) (D := 1000100000) (fun _ _ => rfl) (fun _ _ => rfl) h ok.sl (size_any ok) hR (by omega) ⟨by omega, by omega⟩ ?_ ?_
  · intro W' hW n hn ldA ldn ldc _
    exact givenC_any (hW.cell (b1.cell 0)) (hC.ext hW) (by omega) _ _ _ _ _ _
  · intro W' hW n hn
    obtain ⟨h1, h2, h3, _⟩ := hR.all n (by omega)
    have hb := ask_bd (full := f0) (long := L.getD n 0) h1
    have hl := ok.l1
    have e2 : asN f0 s0 r0 L S (gvF C) (trF T d0) n = askT f0 (L.getD n 0) (folF f0 s0 r0 L S (gvF C) (trF T d0) n).w := rfl
    have hz : 0 ≤ zN f0 s0 r0 L S (gvF C) (trF T d0) n ∧ zN f0 s0 r0 L S (gvF C) (trF T d0) n ≤ 1000000000 := size_any ok _ _
    rw [← e2] at hb
    have hn2 : (n : Int) * 1000100000 ≤ 200 * 1000100000 := by omega
    exact onTraceC_any (hW.cell (b2.cell 0)) (hW.cell (b3.cell 0)) (hT.ext hW) hT0 ⟨by omega, by omega⟩ hd ⟨by omega, by omega⟩ hz
/-- What With answers. -/
def withF (L : List Int) (S : List (List Int)) (Q : List Int) (T : List (Int × Int)) (C : List Int) (d0 s0 r0 f0 i0 k0 l0 t0 lo0 hi0 a0 x0 y0 z0 : Int) : Int := if runF L S Q T d0 s0 r0 f0 i0 k0 l0 t0 lo0 hi0 a0 x0 y0 z0 ≠ 0 then runF L S Q T d0 s0 r0 f0 i0 k0 l0 t0 lo0 hi0 a0 x0 y0 z0 else chsF L.length S.length C
@[reducible] def zS : Value := .agg #[.slice none 0 0, .slice none 0 0, .slice none 0 0, .int .i64 0, .slice none 0 0, .int .i64 0]
def WithGives (w : World) (F : Int) (n : Nat) (f : FoT) (e : Ending) (w' : World) : Prop :=
  Ext w w' ∧ (F ≠ 0 → e = .returned (.tuple #[zS, .int .i64 F])) ∧ (F = 0 → ∃ v, e = .returned (.tuple #[v, .int .i64 0]) ∧ SesAt w' w.heap.size v f.ch f.asd f.arr f.w.beg f.w.stalls (f.w.at_ + f.w.buf) ∧ (f.ch.length = n ∧ f.asd.length = n ∧ f.arr.length = n ∧ f.w.stalls.length ≤ n))
theorem plrF_zero {d s r f i k l t lo hi a x y z : Int} (h : plrF d s r f i k l t lo hi a x y z = 0) : (0 ≤ d ∧ d ≤ 100000) ∧ (1 ≤ f ∧ f ≤ 1000000000) := by
  unfold plrF at h
  split at h
  · omega
  · omega
theorem runF_zero (h : runF L S Q T d0 s0 r0 f0 i0 k0 l0 t0 lo0 hi0 a0 x0 y0 z0 = 0) : filmF L S Q = 0 ∧ trcF T = 0 ∧ (0 ≤ d0 ∧ d0 ≤ 100000) ∧ (1 ≤ f0 ∧ f0 ≤ 1000000000) := by
  unfold runF at h
  by_cases h1 : firstNZ [filmF L S Q, trcF T] = 0
  · rw [if_neg (by omega)] at h
    have h2 : filmF L S Q = 0 := by
      apply Classical.byContradiction; intro hc
      unfold firstNZ at h1; rw [if_pos hc] at h1; exact hc h1
    have h3 : trcF T = 0 := by
      apply Classical.byContradiction; intro hc
      unfold firstNZ at h1; rw [if_neg (by omega)] at h1
      unfold firstNZ at h1; rw [if_pos hc] at h1; exact hc h1
    have h4 : fstF S.length d0 s0 r0 f0 i0 k0 l0 t0 lo0 hi0 a0 x0 y0 z0 = 0 := by
      apply Classical.byContradiction; intro hc
      unfold playF at h; rw [if_pos hc] at h; exact hc h
    exact ⟨h2, h3, plrF_zero (fstF_zero h4).1⟩
  · rw [if_pos h1] at h; exact absurd h h1
set_option maxRecDepth 1000000 in
set_option maxHeartbeats 8000000 in
theorem with_any {tA : Option Addr} {tn tc : Nat} {cA : Option Addr} {cn cc : Nat} (h : Shw w lA ln lc sA sn sc qA qn qc L S Q) (hT : At w 2 e2 tA tn tc T) (hC : At w 1 e64 cA cn cc C) :
    Calls Try.prog 13 #[shV lA ln lc sA sn sc qA qn qc, .slice tA tn tc, plV d0 s0 r0 f0 i0 k0 l0 t0 lo0 hi0 a0 x0 y0 z0, .slice cA cn cc] w (WithGives w (withF L S Q T C d0 s0 r0 f0 i0 k0 l0 t0 lo0 hi0 a0 x0 y0 z0) L.length (folF f0 s0 r0 L S (gvF C) (trF T d0) L.length)) := by
  have HR := hide (fun (W : World) (hW : Ext w W) => runFault_any (d := d0) (s := s0) (r := r0) (f := f0) (i := i0) (k := k0) (l := l0) (t := t0) (lo := lo0) (hi := hi0) (a := a0) (x := x0) (y := y0) (z := z0) (h.ext hW) (hT.ext hW))
  have hv : withF L S Q T C d0 s0 r0 f0 i0 k0 l0 t0 lo0 hi0 a0 x0 y0 z0 = if runF L S Q T d0 s0 r0 f0 i0 k0 l0 t0 lo0 hi0 a0 x0 y0 z0 ≠ 0 then runF L S Q T d0 s0 r0 f0 i0 k0 l0 t0 lo0 hi0 a0 x0 y0 z0 else chsF L.length S.length C := rfl
  have hLn := h.longs.len
  have hSn := h.sizes.len
  have HCF : Hid (runF L S Q T d0 s0 r0 f0 i0 k0 l0 t0 lo0 hi0 a0 x0 y0 z0 = 0 → ∀ W, Ext w W → Calls Try.prog 27 #[shV lA ln lc sA sn sc qA qn qc, .slice cA cn cc] W fun e w' => e = .returned (.int .i64 (chsF L.length S.length C)) ∧ Ext W w') := hide (fun hr W hW => by
    rw [hLn, hSn]
    exact choicesFault_any (by have := (filmF_ok (runF_zero hr).1).s1; omega) (hC.ext hW))
  generalize hu : runF L S Q T d0 s0 r0 f0 i0 k0 l0 t0 lo0 hi0 a0 x0 y0 z0 = u at *
  generalize withF L S Q T C d0 s0 r0 f0 i0 k0 l0 t0 lo0 hi0 a0 x0 y0 z0 = v at *
  have HY : Hid (u ≠ 0 → v = u) := hide (fun h => by rw [hv, if_pos h])
  have HN : Hid (u = 0 → v = chsF L.length S.length C) := hide (fun h => by rw [hv, if_neg (by omega)])
  have HU := hide hu
  have HZ : Hid (u = 0 → filmF L S Q = 0 ∧ trcF T = 0 ∧ (0 ≤ d0 ∧ d0 ≤ 100000) ∧ (1 ≤ f0 ∧ f0 ≤ 1000000000)) := hide (fun h1 => runF_zero (hu.trans h1))
  clear hv hu
  have HH := hide h
  have HT := hide hT
  have HC := hide hC
  clear h hT hC
  go_enter Try.func13, Try.ntmps13
  go_wp2_with fail
  refine (HR.out _ (by repeat' (first | (with_reducible exact Below.refl _ _) | (with_reducible assumption) | (with_reducible refine below_drewN ?_ _) | (with_reducible refine Below.drew ?_) | (with_reducible refine ext_alloc ?_ _) | (with_reducible refine Below.setCell ?_ ?_ _) | go_size))).mono ?_
  rintro e w1 ⟨rfl, e1⟩
  have E1 : Hid (Ext w w1) := hide (Ext.trans (ext_alloc (ext_alloc (Ext.alloc _ _) _) _) e1)
  have B0 := hide (((Blk.new w 25 #[.slice lA ln lc, .slice sA sn sc, .slice qA qn qc]).alloc (.cells #[.int .i64 d0, .int .i64 s0, .int .i64 r0, .int .i64 f0, .int .i64 i0, .int .i64 k0, .int .i64 l0, .int .i64 t0, .int .i64 lo0, .int .i64 hi0, .int .i64 a0, .int .i64 x0, .int .i64 y0, .int .i64 z0] 30)).alloc (.cells #[.slice none 0 0, .slice none 0 0, .slice none 0 0, .int .i64 0, .slice none 0 0, .int .i64 0] 33) |>.ext e1)
  have b1 := (Blk.new (w.alloc (.cells #[.slice lA ln lc, .slice sA sn sc, .slice qA qn qc] 25)) 30 #[.int .i64 d0, .int .i64 s0, .int .i64 r0, .int .i64 f0, .int .i64 i0, .int .i64 k0, .int .i64 l0, .int .i64 t0, .int .i64 lo0, .int .i64 hi0, .int .i64 a0, .int .i64 x0, .int .i64 y0, .int .i64 z0]).alloc (.cells #[.slice none 0 0, .slice none 0 0, .slice none 0 0, .int .i64 0, .slice none 0 0, .int .i64 0] 33) |>.ext e1
  have b2 := (Blk.new ((w.alloc (.cells #[.slice lA ln lc, .slice sA sn sc, .slice qA qn qc] 25)).alloc (.cells #[.int .i64 d0, .int .i64 s0, .int .i64 r0, .int .i64 f0, .int .i64 i0, .int .i64 k0, .int .i64 l0, .int .i64 t0, .int .i64 lo0, .int .i64 hi0, .int .i64 a0, .int .i64 x0, .int .i64 y0, .int .i64 z0] 30)) 33 #[.slice none 0 0, .slice none 0 0, .slice none 0 0, .int .i64 0, .slice none 0 0, .int .i64 0]).ext e1
  simp only [World.size_alloc] at b1 b2
  have B1 := hide b1
  have B2 := hide b2
  clear b1 b2 e1
  have s0' := B2.out.cell 0
  have s1' := B2.out.cell 1
  have s2' := B2.out.cell 2
  have s3' := B2.out.cell 3
  have s4' := B2.out.cell 4
  have s5' := B2.out.cell 5
  have t0' := B2.out.frozen 0
  have t1' := B2.out.frozen 1
  have t2' := B2.out.frozen 2
  have t3' := B2.out.frozen 3
  have t4' := B2.out.frozen 4
  have t5' := B2.out.frozen 5
  by_cases hu : u = 0
  rotate_left
  · have HV := hide (HY.out hu)
    have i1 : (u != 0) = true := by simp [hu]
    have hu' := hide hu
    clear hu HY HN HCF HR
    go_wp2_with fail
    refine gen_bod fun W9 h9 => ?_
    have S9 : Blk W9 (w.heap.size + 1 + 1) 33 #[.slice none 0 0, .slice none 0 0, .slice none 0 0, .int .i64 0, .slice none 0 0, .int .i64 0] := by rw [h9]; exact (((((B2.out.set_ 0 _).set_ 1 _).set_ 2 _).set_ 3 _).set_ 4 _).set_ 5 _
    have T9 : Tw w1 W9 (w.heap.size + 1 + 1) none := by rw [h9]; (repeat' (first | (with_reducible exact Tw.refl _ _ _) | (with_reducible refine Tw.trans ?_ (Tw.set_ _ _ _ _ _))))
    clear h9
    have k0' := S9.cell 0
    have k1' := S9.cell 1
    have k2' := S9.cell 2
    have k3' := S9.cell 3
    have k4' := S9.cell 4
    have k5' := S9.cell 5
    have X9 := Below.trans E1.out (T9.below E1.out.size (by omega) (fun b hb => by cases hb))
    refine bodyPost_ret (v := .tuple #[zS, .int .i64 u]) (by simp [results, Try.results13, go_sem, k0', k1', k2', k3', k4', k5']) rfl ⟨X9, fun _ => by rw [HV.out], fun h => absurd (HV.out.symm.trans h) hu'.out⟩
  have i1 : (u != 0) = false := by simp [hu]
  have HN2 := hide (HN.out hu)
  have HC2 := hide (HCF.out hu)
  have hu' := hide hu
  obtain ⟨z1, z2, z3, z4⟩ := HZ.out hu
  have HU1 := hide z1
  have HU2 := hide z2
  have HU3 := hide z3
  have HU4 := hide z4
  clear hu HN HY HCF HR HZ z1 z2 z3 z4
  have b0' := B0.out.cell 0
  have b1' := B0.out.cell 1
  have b2' := B0.out.cell 2
  go_wp2_with fail
  refine (HC2.out _ E1.out).mono ?_
  rintro e w2 ⟨rfl, e2⟩
  have E2 := hide (Ext.trans E1.out e2)
  have C0 := hide (B0.out.ext e2)
  have C1 := hide (B1.out.ext e2)
  have C2 := hide (B2.out.ext e2)
  clear e2 B0 B1 B2 E1 HC2 b0' b1' b2' s0' s1' s2' s3' s4' s5' t0' t1' t2' t3' t4' t5'
  have s0' := C2.out.cell 0
  have s1' := C2.out.cell 1
  have s2' := C2.out.cell 2
  have s3' := C2.out.cell 3
  have s4' := C2.out.cell 4
  have s5' := C2.out.cell 5
  have t0' := C2.out.frozen 0
  have t1' := C2.out.frozen 1
  have t2' := C2.out.frozen 2
  have t3' := C2.out.frozen 3
  have t4' := C2.out.frozen 4
  have t5' := C2.out.frozen 5
  generalize hcs : chsF L.length S.length C = u2 at *
  have HCS := hide hcs
  clear hcs
  by_cases hu2 : u2 = 0
  rotate_left
  · have i2 : (u2 != 0) = true := by simp [hu2]
    have hu3 := hide hu2
    clear hu2
    go_wp2_with fail
    refine gen_bod fun W9 h9 => ?_
    have S9 : Blk W9 (w.heap.size + 1 + 1) 33 #[.slice none 0 0, .slice none 0 0, .slice none 0 0, .int .i64 0, .slice none 0 0, .int .i64 0] := by rw [h9]; exact (((((C2.out.set_ 0 _).set_ 1 _).set_ 2 _).set_ 3 _).set_ 4 _).set_ 5 _
    have T9 : Tw w2 W9 (w.heap.size + 1 + 1) none := by rw [h9]; (repeat' (first | (with_reducible exact Tw.refl _ _ _) | (with_reducible refine Tw.trans ?_ (Tw.set_ _ _ _ _ _))))
    clear h9
    have k0' := S9.cell 0
    have k1' := S9.cell 1
    have k2' := S9.cell 2
    have k3' := S9.cell 3
    have k4' := S9.cell 4
    have k5' := S9.cell 5
    have X9 := Below.trans E2.out (T9.below E2.out.size (by omega) (fun b hb => by cases hb))
    refine bodyPost_ret (v := .tuple #[zS, .int .i64 u2]) (by simp [results, Try.results13, go_sem, k0', k1', k2', k3', k4', k5']) rfl ⟨X9, fun _ => by rw [HN2.out], fun h => absurd (HN2.out.symm.trans h) hu3.out⟩
  have i2 : (u2 != 0) = false := by simp [hu2]
  have hcs0 : chsF L.length S.length C = 0 := HCS.out.trans hu2
  have HFO := hide (fun (W : World) (q1 q2 q3 : Nat) (hW : Ext w W) (b1 : Blk W q1 22 #[.slice cA cn cc]) (b2 : Blk W q2 26 #[.slice tA tn tc]) (b3 : Blk W q3 30 #[.int .i64 d0, .int .i64 s0, .int .i64 r0, .int .i64 f0, .int .i64 i0, .int .i64 k0, .int .i64 l0, .int .i64 t0, .int .i64 lo0, .int .i64 hi0, .int .i64 a0, .int .i64 x0, .int .i64 y0, .int .i64 z0]) => follow_with (HU1.out) (HU2.out) (HU3.out) (HU4.out) hcs0 (HH.out.ext hW) (HT.out.ext hW) (HC.out.ext hW) b1 b2 b3)
  go_wp2_with fail
  have hn0 : w.heap.size ≠ w.heap.size + 1 + 1 := by omega
  have hn1 : w.heap.size + 1 ≠ w.heap.size + 1 + 1 := by omega
  have g0 : w2.cell? ⟨w.heap.size, 0, none⟩ = some (.slice lA ln lc) := C0.out.cell 0
  have g1 : w2.cell? ⟨w.heap.size, 1, none⟩ = some (.slice sA sn sc) := C0.out.cell 1
  have g2 : w2.cell? ⟨w.heap.size, 2, none⟩ = some (.slice qA qn qc) := C0.out.cell 2
  have g3 : w2.cell? ⟨w.heap.size + 1, 0, none⟩ = some (.int .i64 d0) := C1.out.cell 0
  have g4 : w2.cell? ⟨w.heap.size + 1, 1, none⟩ = some (.int .i64 s0) := C1.out.cell 1
  have g5 : w2.cell? ⟨w.heap.size + 1, 2, none⟩ = some (.int .i64 r0) := C1.out.cell 2
  have g6 : w2.cell? ⟨w.heap.size + 1, 3, none⟩ = some (.int .i64 f0) := C1.out.cell 3
  have g7 : w2.cell? ⟨w.heap.size + 1, 4, none⟩ = some (.int .i64 i0) := C1.out.cell 4
  have g8 : w2.cell? ⟨w.heap.size + 1, 5, none⟩ = some (.int .i64 k0) := C1.out.cell 5
  have g9 : w2.cell? ⟨w.heap.size + 1, 6, none⟩ = some (.int .i64 l0) := C1.out.cell 6
  have g10 : w2.cell? ⟨w.heap.size + 1, 7, none⟩ = some (.int .i64 t0) := C1.out.cell 7
  have g11 : w2.cell? ⟨w.heap.size + 1, 8, none⟩ = some (.int .i64 lo0) := C1.out.cell 8
  have g12 : w2.cell? ⟨w.heap.size + 1, 9, none⟩ = some (.int .i64 hi0) := C1.out.cell 9
  have g13 : w2.cell? ⟨w.heap.size + 1, 10, none⟩ = some (.int .i64 a0) := C1.out.cell 10
  have g14 : w2.cell? ⟨w.heap.size + 1, 11, none⟩ = some (.int .i64 x0) := C1.out.cell 11
  have g15 : w2.cell? ⟨w.heap.size + 1, 12, none⟩ = some (.int .i64 y0) := C1.out.cell 12
  have g16 : w2.cell? ⟨w.heap.size + 1, 13, none⟩ = some (.int .i64 z0) := C1.out.cell 13
  have EX := Ext.drew w2
  go_region_held3 (fun w' => w'.cell? ⟨w.heap.size, 0, none⟩ = some (.slice lA ln lc) ∧ w'.cell? ⟨w.heap.size, 1, none⟩ = some (.slice sA sn sc) ∧ w'.cell? ⟨w.heap.size, 2, none⟩ = some (.slice qA qn qc) ∧ w'.cell? ⟨w.heap.size + 1, 0, none⟩ = some (.int .i64 d0) ∧ w'.cell? ⟨w.heap.size + 1, 1, none⟩ = some (.int .i64 s0) ∧ w'.cell? ⟨w.heap.size + 1, 2, none⟩ = some (.int .i64 r0) ∧ w'.cell? ⟨w.heap.size + 1, 3, none⟩ = some (.int .i64 f0) ∧ w'.cell? ⟨w.heap.size + 1, 4, none⟩ = some (.int .i64 i0) ∧ w'.cell? ⟨w.heap.size + 1, 5, none⟩ = some (.int .i64 k0) ∧ w'.cell? ⟨w.heap.size + 1, 6, none⟩ = some (.int .i64 l0) ∧ w'.cell? ⟨w.heap.size + 1, 7, none⟩ = some (.int .i64 t0) ∧ w'.cell? ⟨w.heap.size + 1, 8, none⟩ = some (.int .i64 lo0) ∧ w'.cell? ⟨w.heap.size + 1, 9, none⟩ = some (.int .i64 hi0) ∧ w'.cell? ⟨w.heap.size + 1, 10, none⟩ = some (.int .i64 a0) ∧ w'.cell? ⟨w.heap.size + 1, 11, none⟩ = some (.int .i64 x0) ∧ w'.cell? ⟨w.heap.size + 1, 12, none⟩ = some (.int .i64 y0) ∧ w'.cell? ⟨w.heap.size + 1, 13, none⟩ = some (.int .i64 z0)) (first | (with_reducible exact ⟨EX.cell g0, EX.cell g1, EX.cell g2, EX.cell g3, EX.cell g4, EX.cell g5, EX.cell g6, EX.cell g7, EX.cell g8, EX.cell g9, EX.cell g10, EX.cell g11, EX.cell g12, EX.cell g13, EX.cell g14, EX.cell g15, EX.cell g16⟩) | exact ⟨cell_far (cell_far (cell_far (cell_far (cell_far (cell_far (EX.cell g0) hn0) hn0) hn0) hn0) hn0) hn0, cell_far (cell_far (cell_far (cell_far (cell_far (cell_far (EX.cell g1) hn0) hn0) hn0) hn0) hn0) hn0, cell_far (cell_far (cell_far (cell_far (cell_far (cell_far (EX.cell g2) hn0) hn0) hn0) hn0) hn0) hn0, cell_far (cell_far (cell_far (cell_far (cell_far (cell_far (EX.cell g3) hn1) hn1) hn1) hn1) hn1) hn1, cell_far (cell_far (cell_far (cell_far (cell_far (cell_far (EX.cell g4) hn1) hn1) hn1) hn1) hn1) hn1, cell_far (cell_far (cell_far (cell_far (cell_far (cell_far (EX.cell g5) hn1) hn1) hn1) hn1) hn1) hn1, cell_far (cell_far (cell_far (cell_far (cell_far (cell_far (EX.cell g6) hn1) hn1) hn1) hn1) hn1) hn1, cell_far (cell_far (cell_far (cell_far (cell_far (cell_far (EX.cell g7) hn1) hn1) hn1) hn1) hn1) hn1, cell_far (cell_far (cell_far (cell_far (cell_far (cell_far (EX.cell g8) hn1) hn1) hn1) hn1) hn1) hn1, cell_far (cell_far (cell_far (cell_far (cell_far (cell_far (EX.cell g9) hn1) hn1) hn1) hn1) hn1) hn1, cell_far (cell_far (cell_far (cell_far (cell_far (cell_far (EX.cell g10) hn1) hn1) hn1) hn1) hn1) hn1, cell_far (cell_far (cell_far (cell_far (cell_far (cell_far (EX.cell g11) hn1) hn1) hn1) hn1) hn1) hn1, cell_far (cell_far (cell_far (cell_far (cell_far (cell_far (EX.cell g12) hn1) hn1) hn1) hn1) hn1) hn1, cell_far (cell_far (cell_far (cell_far (cell_far (cell_far (EX.cell g13) hn1) hn1) hn1) hn1) hn1) hn1, cell_far (cell_far (cell_far (cell_far (cell_far (cell_far (EX.cell g14) hn1) hn1) hn1) hn1) hn1) hn1, cell_far (cell_far (cell_far (cell_far (cell_far (cell_far (EX.cell g15) hn1) hn1) hn1) hn1) hn1) hn1, cell_far (cell_far (cell_far (cell_far (cell_far (cell_far (EX.cell g16) hn1) hn1) hn1) hn1) hn1) hn1⟩ | go_keep) (first
    | ((go_at_call 28; with_reducible refine (given_any _).mono ?_); rintro e w3 ⟨rfl, b3, e3⟩; have EX := Ext.trans EX e3)
    | ((go_at_call 22; with_reducible refine (onTrace_any _ _ _ _ _ _ _ _ _ _ _ _ _ _ _).mono ?_); rintro e w4 ⟨rfl, ⟨b4, b5⟩, e4⟩; have b3' := (show Blk w3 w2.heap.size 22 #[.slice cA cn cc] from b3).ext e4; have EX := Ext.trans EX e4; have hw4 : w2.heap.size ≤ w4.heap.size := EX.size)
    | ((go_at_call 19; with_reducible refine (HFO.out _ _ _ _ (Ext.trans E2.out EX) b3' b4 b5).mono ?_); rintro e w5 ⟨vS, rfl, ⟨cA5, cc5, aA5, ac5, rA5, rc5, tA5, tc5, rfl, m1, m2, m3, m4, m5⟩, hlens, e5⟩; have EX := Ext.trans EX e5; have D2 := C2.out.ext EX; have y0' := D2.cell 0; have y1' := D2.cell 1; have y2' := D2.cell 2; have y3' := D2.cell 3; have y4' := D2.cell 4; have y5' := D2.cell 5; have x0' := D2.frozen 0; have x1' := D2.frozen 1; have x2' := D2.frozen 2; have x3' := D2.frozen 3; have x4' := D2.frozen 4; have x5' := D2.frozen 5))
  have X5 := Ext.trans E2.out EX
  rw [hLn] at hlens m1 m2 m3 m4
  generalize hF5 : folF f0 s0 r0 L S (gvF C) (trF T d0) ln = F at *
  have HF5 := hide hF5
  clear hF5
  have hbig : w.heap.size + 1 + 1 < w4.heap.size := Nat.lt_of_lt_of_le C2.out.lt hw4
  have HM5 := hide (And.intro m1 (And.intro m2 (And.intro m3 (And.intro m4 m5))))
  refine gen_the fun W6 h6 => ?_
  have S6 : Blk W6 (w.heap.size + 1 + 1) 33 #[.slice cA5 F.ch.length cc5, .slice aA5 F.asd.length ac5, .slice rA5 F.arr.length rc5, .int .i64 F.w.beg, .slice tA5 F.w.stalls.length tc5, .int .i64 (F.w.at_ + F.w.buf)] := by rw [h6]; exact (((((D2.set_ 0 _).set_ 1 _).set_ 2 _).set_ 3 _).set_ 4 _).set_ 5 _
  have T6 : Tw w5 W6 (w.heap.size + 1 + 1) none := by rw [h6]; (repeat' (first | (with_reducible exact Tw.refl _ _ _) | (with_reducible refine Tw.trans ?_ (Tw.set_ _ _ _ _ _))))
  clear h6
  have k0' := S6.cell 0
  have k1' := S6.cell 1
  have k2' := S6.cell 2
  have k3' := S6.cell 3
  have k4' := S6.cell 4
  have k5' := S6.cell 5
  have X6 := hide (Below.trans X5 (T6.below X5.size (by omega) (fun b hb => by cases hb)))
  have HR5 := hide (And.intro (m1.tw T6 (fun a ha => ⟨by have := m5 a (.inl ha); omega, by simp⟩)) (And.intro (m2.tw T6 (fun a ha => ⟨by have := m5 a (.inr (.inl ha)); omega, by simp⟩)) (And.intro (m3.tw T6 (fun a ha => ⟨by have := m5 a (.inr (.inr (.inl ha))); omega, by simp⟩)) (m4.tw T6 (fun a ha => ⟨by have := m5 a (.inr (.inr (.inr ha))); omega, by simp⟩)))))
  have HL5 := hide hlens
  have HLn := hide hLn
  have HM6 := hide m5
  have HU5 := hide (HN2.out.trans hu2)
  clear m1 m2 m3 m4 m5 hlens T6 X5
  go_wp2_with fail
  refine bodyPost_ret (v := .tuple #[.agg #[.slice cA5 F.ch.length cc5, .slice aA5 F.asd.length ac5, .slice rA5 F.arr.length rc5, .int .i64 F.w.beg, .slice tA5 F.w.stalls.length tc5, .int .i64 (F.w.at_ + F.w.buf)], .int .i64 0]) (by simp [results, Try.results13, go_sem, k0', k1', k2', k3', k4', k5']) rfl ⟨X6.out, fun h => absurd HU5.out h, fun _ => ?_⟩
  rw [HLn.out, HF5.out]
  exact ⟨_, rfl, ⟨cA5, cc5, aA5, ac5, rA5, rc5, tA5, tc5, rfl, HR5.out.1, HR5.out.2.1, HR5.out.2.2.1, HR5.out.2.2.2, fun a ha => by have := HM6.out a ha; omega⟩, HL5.out⟩
end
end Go.Proofs.Ytajadgpkmommmaa
