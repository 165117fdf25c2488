/- Proved: for every film, trace, player, choices and number PlayFasterIsNotLater returns true: on a network that gives at all times as much or more a player with given choices that never waits for its buffer has each segment at least as soon; the arguments read as they did. Conditions: none. -/
import Derived.Test.YtjbgkoeojfmkkaaFasP
import Derived.Test.YtjbgkoeojfmkkaaAwakeP
import Derived.Test.YtjbgkoeojfmkkaaShows
import Derived.Test.YtjbgkoeojfmkkaaOpen
import Derived.Test.YtjbgkoeojfmkkaaLawG
import Derived.Test.YtjbgkoeojfmkkaaOpens3
namespace Go.Proofs.Ytjbgkoeojfmkkaa
open Go.ChangeShapes Go.WideShapes Go.ChangeAt Go.RowKit
theorem ext_sets6 {w W : World} {g : Nat} {a b c d e f : Value} (h : Ext w W) (hg : w.heap.size ≤ g) : Ext w ((((((W.setCell ⟨g, 0, none⟩ a).setCell ⟨g, 1, none⟩ b).setCell ⟨g, 2, none⟩ c).setCell ⟨g, 3, none⟩ d).setCell ⟨g, 4, none⟩ e).setCell ⟨g, 5, none⟩ f) := by
  have t : Tw W ((((((W.setCell ⟨g, 0, none⟩ a).setCell ⟨g, 1, none⟩ b).setCell ⟨g, 2, none⟩ c).setCell ⟨g, 3, none⟩ d).setCell ⟨g, 4, none⟩ e).setCell ⟨g, 5, none⟩ f) g none := by
    (repeat' (first | (with_reducible exact Tw.refl _ _ _) | (with_reducible refine Tw.trans ?_ (Tw.set_ _ _ _ _ _))))
  exact Below.trans h (t.below h.size hg (fun b hb => by cases hb))
theorem tw_sets6 {W : World} {g : Nat} {a b c d e f : Value} : Tw W ((((((W.setCell ⟨g, 0, none⟩ a).setCell ⟨g, 1, none⟩ b).setCell ⟨g, 2, none⟩ c).setCell ⟨g, 3, none⟩ d).setCell ⟨g, 4, none⟩ e).setCell ⟨g, 5, none⟩ f) g none := by
  (repeat' (first | (with_reducible exact Tw.refl _ _ _) | (with_reducible refine Tw.trans ?_ (Tw.set_ _ _ _ _ _))))
theorem blk_sets6 {W : World} {g t : Nat} {z0 z1 z2 z3 z4 z5 a b c d e f : Value} (h : Blk W g t #[z0, z1, z2, z3, z4, z5]) : Blk ((((((W.setCell ⟨g, 0, none⟩ a).setCell ⟨g, 1, none⟩ b).setCell ⟨g, 2, none⟩ c).setCell ⟨g, 3, none⟩ d).setCell ⟨g, 4, none⟩ e).setCell ⟨g, 5, none⟩ f) g t #[a, b, c, d, e, f] :=
  (((((h.set_ 0 a).set_ 1 b).set_ 2 c).set_ 3 d).set_ 4 e).set_ 5 f
set_option maxRecDepth 1000000 in
set_option maxHeartbeats 16000000 in
theorem faster_law {lA : Option Addr} {ln lc : Nat} {sA : Option Addr} {sn sc : Nat} {qA : Option Addr} {qn qc : Nat} {L : List Int} {S : List (List Int)} {Q : List Int} {T : List (Int × Int)} {C : List Int} {d0 s0 r0 f0 i0 k0 l0 t0 lo0 hi0 a0 x0 y0 z0 m : Int} {w : World} {tA : Option Addr} {tn tc : Nat} {cA : Option Addr} {cn cc : Nat} (h : Shw w lA ln lc sA sn sc qA qn qc L S Q) (hT : At w 2 e2 tA tn tc T) (hC : At w 1 e64 cA cn cc C) :
    Calls Try.prog 3 #[shV lA ln lc sA sn sc qA qn qc, .slice tA tn tc, plV d0 s0 r0 f0 i0 k0 l0 t0 lo0 hi0 a0 x0 y0 z0, .slice cA cn cc, .int .i64 m] w fun e w' => e = .returned (.bool true) ∧ Ext w w' := by
  have HB0 : Hid (∀ W, Ext ((w.alloc (.cells #[.slice lA ln lc, .slice sA sn sc, .slice qA qn qc] 25)).alloc (.cells #[.int .i64 d0, .int .i64 s0, .int .i64 r0, .int .i64 f0, .int .i64 i0, .int .i64 k0, .int .i64 l0, .int .i64 t0, .int .i64 lo0, .int .i64 hi0, .int .i64 a0, .int .i64 x0, .int .i64 y0, .int .i64 z0] 30)) W → Blk W w.heap.size 25 #[.slice lA ln lc, .slice sA sn sc, .slice qA qn qc]) := hide (fun W hW => ((Blk.new w 25 #[.slice lA ln lc, .slice sA sn sc, .slice qA qn qc]).alloc (.cells #[.int .i64 d0, .int .i64 s0, .int .i64 r0, .int .i64 f0, .int .i64 i0, .int .i64 k0, .int .i64 l0, .int .i64 t0, .int .i64 lo0, .int .i64 hi0, .int .i64 a0, .int .i64 x0, .int .i64 y0, .int .i64 z0] 30)).ext hW)
  have HB1 : Hid (∀ W, Ext ((w.alloc (.cells #[.slice lA ln lc, .slice sA sn sc, .slice qA qn qc] 25)).alloc (.cells #[.int .i64 d0, .int .i64 s0, .int .i64 r0, .int .i64 f0, .int .i64 i0, .int .i64 k0, .int .i64 l0, .int .i64 t0, .int .i64 lo0, .int .i64 hi0, .int .i64 a0, .int .i64 x0, .int .i64 y0, .int .i64 z0] 30)) W → Blk W (w.heap.size + 1) 30 #[.int .i64 d0, .int .i64 s0, .int .i64 r0, .int .i64 f0, .int .i64 i0, .int .i64 k0, .int .i64 l0, .int .i64 t0, .int .i64 lo0, .int .i64 hi0, .int .i64 a0, .int .i64 x0, .int .i64 y0, .int .i64 z0]) := hide (fun W hW => by
    have b2 := (Blk.new (w.alloc (.cells #[.slice lA ln lc, .slice sA sn sc, .slice qA qn qc] 25)) 30 #[.int .i64 d0, .int .i64 s0, .int .i64 r0, .int .i64 f0, .int .i64 i0, .int .i64 k0, .int .i64 l0, .int .i64 t0, .int .i64 lo0, .int .i64 hi0, .int .i64 a0, .int .i64 x0, .int .i64 y0, .int .i64 z0]).ext hW
    rw [World.size_alloc] at b2
    exact b2)
  have HX : Hid (Ext w ((w.alloc (.cells #[.slice lA ln lc, .slice sA sn sc, .slice qA qn qc] 25)).alloc (.cells #[.int .i64 d0, .int .i64 s0, .int .i64 r0, .int .i64 f0, .int .i64 i0, .int .i64 k0, .int .i64 l0, .int .i64 t0, .int .i64 lo0, .int .i64 hi0, .int .i64 a0, .int .i64 x0, .int .i64 y0, .int .i64 z0] 30))) := hide (ext_alloc (Ext.alloc _ _) _)
  have HH := hide h
  have HT := hide hT
  have HC := hide hC
  have HW1 := hide (fun (W : World) (hW : Ext w W) => with_any (d0 := d0) (s0 := s0) (r0 := r0) (f0 := f0) (i0 := i0) (k0 := k0) (l0 := l0) (t0 := t0) (lo0 := lo0) (hi0 := hi0) (a0 := a0) (x0 := x0) (y0 := y0) (z0 := z0) (h.ext hW) (hT.ext hW) (hC.ext hW))
  have HW2 := hide (fun (W : World) (hW : Ext w W) (uA : Option Addr) (un uc : Nat) (hu : At W 2 e2 uA un uc (fastT m T)) => with_any (d0 := d0) (s0 := s0) (r0 := r0) (f0 := 1000000000) (i0 := i0) (k0 := k0) (l0 := l0) (t0 := t0) (lo0 := lo0) (hi0 := hi0) (a0 := a0) (x0 := x0) (y0 := y0) (z0 := z0) (h.ext hW) hu (hC.ext hW))
  have HAW := hide (fun (W : World) => awake_any W)
  have HLN := hide h.longs.len
  have HOK : Hid (withF L S Q T C d0 s0 r0 f0 i0 k0 l0 t0 lo0 hi0 a0 x0 y0 z0 = 0 → filmF L S Q = 0 ∧ trcF T = 0 ∧ (0 ≤ d0 ∧ d0 ≤ 100000) ∧ chsF L.length S.length C = 0) := hide (fun h => by
    have hr : runF L S Q T d0 s0 r0 f0 i0 k0 l0 t0 lo0 hi0 a0 x0 y0 z0 = 0 := by
      apply Classical.byContradiction; intro hc
      unfold withF at h; rw [if_pos hc] at h; exact hc h
    obtain ⟨z1, z2, z3, _⟩ := runF_zero hr
    exact ⟨z1, z2, z3, by unfold withF at h; rw [if_neg (by omega)] at h; exact h⟩)
  have HFA := hide (fun (hm : 0 ≤ m) (h : withF L S Q T C d0 s0 r0 f0 i0 k0 l0 t0 lo0 hi0 a0 x0 y0 z0 = 0) => with_fast hm h)
  clear h hT hC
  generalize hu : withF L S Q T C d0 s0 r0 f0 i0 k0 l0 t0 lo0 hi0 a0 x0 y0 z0 = u at *
  generalize withF L S Q (fastT m T) C d0 s0 r0 1000000000 i0 k0 l0 t0 lo0 hi0 a0 x0 y0 z0 = v at *
  clear hu
  generalize hX : folF f0 s0 r0 L S (gvF C) (trF T d0) L.length = X at *
  generalize hY : folF 1000000000 s0 r0 L S (gvF C) (trF (fastT m T) d0) L.length = Y at *
  have HFX := hide hX
  have HFY := hide hY
  clear hX hY
  go_enter Try.func3, Try.ntmps3
  go_wp2_with fail
  have p0 := (HB0.out _ (Ext.refl _)).cell 0
  refine (HW1.out _ HX.out).mono ?_
  rintro e w1 ⟨e1, hbad, hgood⟩
  have E1 := hide e1
  clear e1
  by_cases hu : u = 0
  rotate_left
  · obtain rfl := hbad hu
    have hne : (u != 0) = true := by simp [hu]
    have hne2 : (u == 0) = false := by simp [hu]
    clear hbad hgood hu
    have B3 := hide (Blk.new w1 33 #[.slice none 0 0, .slice none 0 0, .slice none 0 0, .int .i64 0, .slice none 0 0, .int .i64 0])
    have c5 := B3.out.cell 5
    go_wp2_with fail
    refine (HAW.out _).mono ?_
    rintro e w9 ⟨rfl, e9⟩
    have E9 := hide e9
    clear e9
    go_wp2
    go_ret
    exact ⟨rfl, Ext.trans HX.out (Ext.trans E1.out (Ext.trans (Ext.alloc _ _) E9.out))⟩
  obtain ⟨vS, rfl, ⟨xcA, xcc, xaA, xac, xrA, xrc, xtA, xtc, rfl, m1, m2, m3, m4, m5⟩, hlens⟩ := hgood hu
  obtain ⟨g1, g2, g3, g4⟩ := HOK.out hu
  have hok := filmF_ok g1
  have hne : (u != 0) = false := by simp [hu]
  have hne2 : (u == 0) = true := by simp [hu]
  have hu0 := hide hu
  clear hbad hgood HOK
  have B3 := hide (Blk.new w1 33 #[.slice xcA X.ch.length xcc, .slice xaA X.asd.length xac, .slice xrA X.arr.length xrc, .int .i64 X.w.beg, .slice xtA X.w.stalls.length xtc, .int .i64 (X.w.at_ + X.w.buf)])
  have c0' := B3.out.cell 0
  have c1' := B3.out.cell 1
  have c2' := B3.out.cell 2
  have c3' := B3.out.cell 3
  have c4' := B3.out.cell 4
  have c5' := B3.out.cell 5
  have HA := hide m2
  have HR := hide m3
  obtain ⟨y1, y2, y3, y4⟩ := hlens
  have HY1 := hide y1
  have HY2 := hide y2
  have HY3 := hide y3
  have HG1 := hide g1
  have HG2 := hide g2
  have HG3 := hide g3
  have HG4 := hide g4
  have HOK := hide hok
  have hl1 := hok.l1
  have hxa : X.asd.length ≤ 200 := by omega
  have hxr : X.arr.length = X.asd.length := by omega
  have HXR := hide hxr
  have HXA := hide hxa
  have HXA2 := hide y2
  have E2 : Hid (Ext ((w.alloc (.cells #[.slice lA ln lc, .slice sA sn sc, .slice qA qn qc] 25)).alloc (.cells #[.int .i64 d0, .int .i64 s0, .int .i64 r0, .int .i64 f0, .int .i64 i0, .int .i64 k0, .int .i64 l0, .int .i64 t0, .int .i64 lo0, .int .i64 hi0, .int .i64 a0, .int .i64 x0, .int .i64 y0, .int .i64 z0] 30)) (w1.alloc (.cells #[.slice xcA X.ch.length xcc, .slice xaA X.asd.length xac, .slice xrA X.arr.length xrc, .int .i64 X.w.beg, .slice xtA X.w.stalls.length xtc, .int .i64 (X.w.at_ + X.w.buf)] 33))) := hide (Ext.trans E1.out (Ext.alloc _ _))
  have HA2 := hide (HA.out.ext (Ext.alloc w1 (.cells #[.slice xcA X.ch.length xcc, .slice xaA X.asd.length xac, .slice xrA X.arr.length xrc, .int .i64 X.w.beg, .slice xtA X.w.stalls.length xtc, .int .i64 (X.w.at_ + X.w.buf)] 33)))
  have HR2 := hide (HR.out.ext (Ext.alloc w1 (.cells #[.slice xcA X.ch.length xcc, .slice xaA X.asd.length xac, .slice xrA X.arr.length xrc, .int .i64 X.w.beg, .slice xtA X.w.stalls.length xtc, .int .i64 (X.w.at_ + X.w.buf)] 33)))
  clear m1 m2 m3 m4 m5 y1 y2 y3 y4 g1 g2 g3 g4 hok hl1 hxa hxr HA HR
  by_cases hm0 : m < 0
  · have i1 : decide (m < 0) = true := by simp [hm0]
    clear hu
    go_wp2_with fail
    refine (HAW.out _).mono ?_
    rintro e w9 ⟨rfl, e9⟩
    have E9 := hide e9
    clear e9
    go_wp2
    go_ret
    exact ⟨rfl, Ext.trans HX.out (Ext.trans E2.out E9.out)⟩
  by_cases hm1 : 1000 < m
  · have i1 : decide (m < 0) = false := by simp; omega
    have i2 : decide (1000 < m) = true := by simp [hm1]
    clear hu
    go_wp2_with fail
    refine (HAW.out _).mono ?_
    rintro e w9 ⟨rfl, e9⟩
    have E9 := hide e9
    clear e9
    go_wp2
    go_ret
    exact ⟨rfl, Ext.trans HX.out (Ext.trans E2.out E9.out)⟩
  have i1 : decide (m < 0) = false := by simp; omega
  have i2 : decide (1000 < m) = false := by simp; omega
  have hmb : 0 ≤ m ∧ m ≤ 1000 := by omega
  have HM := hide hmb
  have HFA2 := hide (HFA.out hmb.1 hu0.out)
  clear hmb HFA
  have HNW := hide (fun (W : World) (hW : Ext (w1.alloc (.cells #[.slice xcA X.ch.length xcc, .slice xaA X.asd.length xac, .slice xrA X.arr.length xrc, .int .i64 X.w.beg, .slice xtA X.w.stalls.length xtc, .int .i64 (X.w.at_ + X.w.buf)] 33)) W) => neverWaits_any (cA := xcA) (cn := X.ch.length) (cc := xcc) (bg := X.w.beg) (tA := xtA) (tn := X.w.stalls.length) (tc := xtc) (en := X.w.at_ + X.w.buf) (HA2.out.ext hW) (HR2.out.ext hW) HXR.out HXA.out)
  clear hu
  go_wp2_with fail
  refine (HNW.out _ (Ext.refl _)).mono ?_
  rintro e w3 ⟨b, rfl, hb, e3⟩
  have E3 := hide (Ext.trans E2.out e3)
  have HB3 := hide (B3.out.ext e3)
  have HA3 := hide (HA2.out.ext e3)
  have HR3 := hide (HR2.out.ext e3)
  have HB := hide hb
  clear e3 hb HNW HA2 HR2 B3 E2 c0' c1' c2' c3' c4' c5'
  have b0' := (HB0.out _ E3.out).cell 0
  cases b
  · go_wp2_with fail
    refine (HAW.out _).mono ?_
    rintro e w9 ⟨rfl, e9⟩
    have E9 := hide e9
    clear e9
    go_wp2
    go_ret
    exact ⟨rfl, Ext.trans HX.out (Ext.trans E3.out E9.out)⟩
  have HNO := hide (HB.out rfl)
  have HSM := hide (sumOf_any (HH.out.longs.ext (Ext.trans HX.out E3.out)) (by have := HOK.out.l1; have := HLN.out; omega) (fun i hi => ⟨by have := (HOK.out.lr i hi).1; omega, (HOK.out.lr i hi).2⟩))
  clear HB
  go_wp2_with fail
  refine HSM.out.mono ?_
  rintro e w4 ⟨rfl, rfl⟩
  clear HSM
  by_cases hsum : 1000000000 < L.sum
  · have i3 : decide (1000000000 < L.sum) = true := by simp [hsum]
    generalize L.sum = sm at *
    go_wp2_with fail
    refine (HAW.out _).mono ?_
    rintro e w9 ⟨rfl, e9⟩
    have E9 := hide e9
    clear e9
    go_wp2
    go_ret
    exact ⟨rfl, Ext.trans HX.out (Ext.trans E3.out E9.out)⟩
  have i3 : decide (1000000000 < L.sum) = false := by simp; omega
  have HSM := hide (show L.sum ≤ 1000000000 by omega)
  generalize hsq : L.sum = sm at *
  have HSQ := hide hsq
  clear hsq hsum
  have HFS := hide (fun (W : World) (hW : Ext w W) => faster_any (HT.out.ext hW) (by have := (trcF_zero HG2.out).2.1; have := HT.out.len; omega) HM.out (fun i hi => by have := (trEl_zero ((trcF_zero HG2.out).2.2.1 i hi)).2.1; exact ⟨this.1, by omega⟩))
  have HRM := hide (fun (W : World) => roomy_any (w := W) (d0 := d0) (s0 := s0) (r0 := r0) (f0 := f0) (i0 := i0) (k0 := k0) (l0 := l0) (t0 := t0) (lo0 := lo0) (hi0 := hi0) (a0 := a0) (x0 := x0) (y0 := y0) (z0 := z0))
  clear b0'
  by_cases hv : v = 0
  rotate_left
  · have HW3 : Hid (∀ W, Ext w W → ∀ uA un uc, At W 2 e2 uA un uc (fastT m T) → Calls Try.prog 8 #[shV lA ln lc sA sn sc qA qn qc, .slice uA un uc, plV d0 s0 r0 1000000000 i0 k0 l0 t0 lo0 hi0 a0 x0 y0 z0, .slice cA cn cc] W fun e w' => e = .returned (.tuple #[zS, .int .i64 v]) ∧ Ext W w') := hide (fun W hW uA un uc hu => (HW2.out W hW uA un uc hu).mono fun e w' hg => ⟨hg.2.1 hv, hg.1⟩)
    have hv1 : v = 1 := by rcases HFA2.out with h | h; exact absurd h.1 hv; exact h
    subst hv1
    go_wp2_with fail
    have g0 : w3.cell? ⟨w.heap.size, 0, none⟩ = some (.slice lA ln lc) := (HB0.out _ E3.out).cell 0
    have g1 : w3.cell? ⟨w.heap.size, 1, none⟩ = some (.slice sA sn sc) := (HB0.out _ E3.out).cell 1
    have g2 : w3.cell? ⟨w.heap.size, 2, none⟩ = some (.slice qA qn qc) := (HB0.out _ E3.out).cell 2
    have g3 : w3.cell? ⟨w.heap.size + 1, 0, none⟩ = some (.int .i64 d0) := (HB1.out _ E3.out).cell 0
    have g4 : w3.cell? ⟨w.heap.size + 1, 1, none⟩ = some (.int .i64 s0) := (HB1.out _ E3.out).cell 1
    have g5 : w3.cell? ⟨w.heap.size + 1, 2, none⟩ = some (.int .i64 r0) := (HB1.out _ E3.out).cell 2
    have g6 : w3.cell? ⟨w.heap.size + 1, 3, none⟩ = some (.int .i64 f0) := (HB1.out _ E3.out).cell 3
    have g7 : w3.cell? ⟨w.heap.size + 1, 4, none⟩ = some (.int .i64 i0) := (HB1.out _ E3.out).cell 4
    have g8 : w3.cell? ⟨w.heap.size + 1, 5, none⟩ = some (.int .i64 k0) := (HB1.out _ E3.out).cell 5
    have g9 : w3.cell? ⟨w.heap.size + 1, 6, none⟩ = some (.int .i64 l0) := (HB1.out _ E3.out).cell 6
    have g10 : w3.cell? ⟨w.heap.size + 1, 7, none⟩ = some (.int .i64 t0) := (HB1.out _ E3.out).cell 7
    have g11 : w3.cell? ⟨w.heap.size + 1, 8, none⟩ = some (.int .i64 lo0) := (HB1.out _ E3.out).cell 8
    have g12 : w3.cell? ⟨w.heap.size + 1, 9, none⟩ = some (.int .i64 hi0) := (HB1.out _ E3.out).cell 9
    have g13 : w3.cell? ⟨w.heap.size + 1, 10, none⟩ = some (.int .i64 a0) := (HB1.out _ E3.out).cell 10
    have g14 : w3.cell? ⟨w.heap.size + 1, 11, none⟩ = some (.int .i64 x0) := (HB1.out _ E3.out).cell 11
    have g15 : w3.cell? ⟨w.heap.size + 1, 12, none⟩ = some (.int .i64 y0) := (HB1.out _ E3.out).cell 12
    have g16 : w3.cell? ⟨w.heap.size + 1, 13, none⟩ = some (.int .i64 z0) := (HB1.out _ E3.out).cell 13
    have HS : Hid (∀ w', Ext w3 w' → w'.cell? ⟨w.heap.size, 0, none⟩ = some (.slice lA ln lc) ∧ w'.cell? ⟨w.heap.size, 1, none⟩ = some (.slice sA sn sc) ∧ w'.cell? ⟨w.heap.size, 2, none⟩ = some (.slice qA qn qc) ∧ w'.cell? ⟨w.heap.size + 1, 0, none⟩ = some (.int .i64 d0) ∧ w'.cell? ⟨w.heap.size + 1, 1, none⟩ = some (.int .i64 s0) ∧ w'.cell? ⟨w.heap.size + 1, 2, none⟩ = some (.int .i64 r0) ∧ w'.cell? ⟨w.heap.size + 1, 3, none⟩ = some (.int .i64 f0) ∧ w'.cell? ⟨w.heap.size + 1, 4, none⟩ = some (.int .i64 i0) ∧ w'.cell? ⟨w.heap.size + 1, 5, none⟩ = some (.int .i64 k0) ∧ w'.cell? ⟨w.heap.size + 1, 6, none⟩ = some (.int .i64 l0) ∧ w'.cell? ⟨w.heap.size + 1, 7, none⟩ = some (.int .i64 t0) ∧ w'.cell? ⟨w.heap.size + 1, 8, none⟩ = some (.int .i64 lo0) ∧ w'.cell? ⟨w.heap.size + 1, 9, none⟩ = some (.int .i64 hi0) ∧ w'.cell? ⟨w.heap.size + 1, 10, none⟩ = some (.int .i64 a0) ∧ w'.cell? ⟨w.heap.size + 1, 11, none⟩ = some (.int .i64 x0) ∧ w'.cell? ⟨w.heap.size + 1, 12, none⟩ = some (.int .i64 y0) ∧ w'.cell? ⟨w.heap.size + 1, 13, none⟩ = some (.int .i64 z0)) := hide (fun w' EX => ⟨EX.cell g0, EX.cell g1, EX.cell g2, EX.cell g3, EX.cell g4, EX.cell g5, EX.cell g6, EX.cell g7, EX.cell g8, EX.cell g9, EX.cell g10, EX.cell g11, EX.cell g12, EX.cell g13, EX.cell g14, EX.cell g15, EX.cell g16⟩)
    have EX := Ext.drew w3
    go_region_held3 (fun w' => w'.cell? ⟨w.heap.size, 0, none⟩ = some (.slice lA ln lc) ∧ w'.cell? ⟨w.heap.size, 1, none⟩ = some (.slice sA sn sc) ∧ w'.cell? ⟨w.heap.size, 2, none⟩ = some (.slice qA qn qc) ∧ w'.cell? ⟨w.heap.size + 1, 0, none⟩ = some (.int .i64 d0) ∧ w'.cell? ⟨w.heap.size + 1, 1, none⟩ = some (.int .i64 s0) ∧ w'.cell? ⟨w.heap.size + 1, 2, none⟩ = some (.int .i64 r0) ∧ w'.cell? ⟨w.heap.size + 1, 3, none⟩ = some (.int .i64 f0) ∧ w'.cell? ⟨w.heap.size + 1, 4, none⟩ = some (.int .i64 i0) ∧ w'.cell? ⟨w.heap.size + 1, 5, none⟩ = some (.int .i64 k0) ∧ w'.cell? ⟨w.heap.size + 1, 6, none⟩ = some (.int .i64 l0) ∧ w'.cell? ⟨w.heap.size + 1, 7, none⟩ = some (.int .i64 t0) ∧ w'.cell? ⟨w.heap.size + 1, 8, none⟩ = some (.int .i64 lo0) ∧ w'.cell? ⟨w.heap.size + 1, 9, none⟩ = some (.int .i64 hi0) ∧ w'.cell? ⟨w.heap.size + 1, 10, none⟩ = some (.int .i64 a0) ∧ w'.cell? ⟨w.heap.size + 1, 11, none⟩ = some (.int .i64 x0) ∧ w'.cell? ⟨w.heap.size + 1, 12, none⟩ = some (.int .i64 y0) ∧ w'.cell? ⟨w.heap.size + 1, 13, none⟩ = some (.int .i64 z0)) (first
      | (with_reducible exact HS.out _ EX)
      | (with_reducible exact HS.out _ (ext_sets6 EX (by first | exact Nat.le_refl _ | exact Below.size (by assumption))))
      | (with_reducible exact HS.out _ (Ext.trans EX (Ext.alloc _ _)))) (first
      | (go_at_call 12; (first | with_reducible refine (HFS.out _ (Ext.trans HX.out (Ext.trans E3.out EX))).mono ?_ | with_reducible refine (HFS.out _ (Ext.trans HX.out (Ext.trans E3.out (Ext.trans (Ext.alloc _ _) (Ext.drew _))))).mono ?_); rintro e w5 ⟨uA, uc, rfl, u5, e5⟩; have EX : Ext w3 w5 := (by first | with_reducible exact Ext.trans EX e5 | with_reducible exact Ext.trans (Ext.trans (Ext.alloc _ _) (Ext.drew _)) e5))
      | (go_at_call 13; with_reducible refine (HRM.out _).mono ?_; rintro e w6 ⟨rfl, e6⟩; have EX : Ext w3 w6 := (by first | with_reducible exact Ext.trans EX e6 | with_reducible exact Ext.trans (Ext.trans EX (Ext.alloc _ _)) e6))
      | (go_at_call 8; (first | with_reducible refine (HW3.out _ (Ext.trans HX.out (Ext.trans E3.out EX)) _ _ _ (u5.ext ?_)).mono ?_ | with_reducible refine (HW3.out _ (Ext.trans HX.out (Ext.trans E3.out (Ext.trans EX (Ext.alloc _ _)))) _ _ _ (u5.ext ?_)).mono ?_); (first | with_reducible exact Ext.refl _ | with_reducible exact e6 | with_reducible exact Ext.alloc _ _ | with_reducible exact Ext.trans (Ext.alloc _ _) e6 | with_reducible exact Ext.trans e6 (Ext.alloc _ _)); rintro e w7 ⟨rfl, e7⟩; have EX : Ext w3 w7 := (by first | with_reducible exact Ext.trans EX e7 | with_reducible exact Ext.trans (Ext.trans EX (Ext.alloc _ _)) e7); (first | (with_reducible have BB := (Blk.new _ 33 #[.slice none 0 0, .slice none 0 0, .slice none 0 0, .int .i64 0, .slice none 0 0, .int .i64 0]).ext e7; have BL := Nat.lt_succ_self w6.heap.size; have bb0 : w7.cell? ⟨_, 0, none⟩ = some (.slice none 0 0) := BB.cell 0; have bf0 : w7.frozen? ⟨_, 0, none⟩ = false := BB.frozen 0; have bb1 : w7.cell? ⟨_, 1, none⟩ = some (.slice none 0 0) := BB.cell 1; have bf1 : w7.frozen? ⟨_, 1, none⟩ = false := BB.frozen 1; have bb2 : w7.cell? ⟨_, 2, none⟩ = some (.slice none 0 0) := BB.cell 2; have bf2 : w7.frozen? ⟨_, 2, none⟩ = false := BB.frozen 2; have bb3 : w7.cell? ⟨_, 3, none⟩ = some (.int .i64 0) := BB.cell 3; have bf3 : w7.frozen? ⟨_, 3, none⟩ = false := BB.frozen 3; have bb4 : w7.cell? ⟨_, 4, none⟩ = some (.slice none 0 0) := BB.cell 4; have bf4 : w7.frozen? ⟨_, 4, none⟩ = false := BB.frozen 4; have bb5 : w7.cell? ⟨_, 5, none⟩ = some (.int .i64 0) := BB.cell 5; have bf5 : w7.frozen? ⟨_, 5, none⟩ = false := BB.frozen 5) | (with_reducible have BB := (Blk.new _ 33 #[.slice none 0 0, .slice none 0 0, .slice none 0 0, .int .i64 0, .slice none 0 0, .int .i64 0]).ext (Ext.trans e6 e7); with_reducible have BL := ((Blk.new _ 33 #[.slice none 0 0, .slice none 0 0, .slice none 0 0, .int .i64 0, .slice none 0 0, .int .i64 0]).ext e6).lt; have bb0 : w7.cell? ⟨_, 0, none⟩ = some (.slice none 0 0) := BB.cell 0; have bf0 : w7.frozen? ⟨_, 0, none⟩ = false := BB.frozen 0; have bb1 : w7.cell? ⟨_, 1, none⟩ = some (.slice none 0 0) := BB.cell 1; have bf1 : w7.frozen? ⟨_, 1, none⟩ = false := BB.frozen 1; have bb2 : w7.cell? ⟨_, 2, none⟩ = some (.slice none 0 0) := BB.cell 2; have bf2 : w7.frozen? ⟨_, 2, none⟩ = false := BB.frozen 2; have bb3 : w7.cell? ⟨_, 3, none⟩ = some (.int .i64 0) := BB.cell 3; have bf3 : w7.frozen? ⟨_, 3, none⟩ = false := BB.frozen 3; have bb4 : w7.cell? ⟨_, 4, none⟩ = some (.slice none 0 0) := BB.cell 4; have bf4 : w7.frozen? ⟨_, 4, none⟩ = false := BB.frozen 4; have bb5 : w7.cell? ⟨_, 5, none⟩ = some (.int .i64 0) := BB.cell 5; have bf5 : w7.frozen? ⟨_, 5, none⟩ = false := BB.frozen 5) | (with_reducible have BB := (Blk.new _ 33 #[.slice none 0 0, .slice none 0 0, .slice none 0 0, .int .i64 0, .slice none 0 0, .int .i64 0]).drew.ext (Ext.trans e5 (Ext.trans e6 e7)); with_reducible have BL := ((Blk.new _ 33 #[.slice none 0 0, .slice none 0 0, .slice none 0 0, .int .i64 0, .slice none 0 0, .int .i64 0]).drew.ext (Ext.trans e5 e6)).lt; have bb0 : w7.cell? ⟨_, 0, none⟩ = some (.slice none 0 0) := BB.cell 0; have bf0 : w7.frozen? ⟨_, 0, none⟩ = false := BB.frozen 0; have bb1 : w7.cell? ⟨_, 1, none⟩ = some (.slice none 0 0) := BB.cell 1; have bf1 : w7.frozen? ⟨_, 1, none⟩ = false := BB.frozen 1; have bb2 : w7.cell? ⟨_, 2, none⟩ = some (.slice none 0 0) := BB.cell 2; have bf2 : w7.frozen? ⟨_, 2, none⟩ = false := BB.frozen 2; have bb3 : w7.cell? ⟨_, 3, none⟩ = some (.int .i64 0) := BB.cell 3; have bf3 : w7.frozen? ⟨_, 3, none⟩ = false := BB.frozen 3; have bb4 : w7.cell? ⟨_, 4, none⟩ = some (.slice none 0 0) := BB.cell 4; have bf4 : w7.frozen? ⟨_, 4, none⟩ = false := BB.frozen 4; have bb5 : w7.cell? ⟨_, 5, none⟩ = some (.int .i64 0) := BB.cell 5; have bf5 : w7.frozen? ⟨_, 5, none⟩ = false := BB.frozen 5) | skip)))
    all_goals (
      refine gen_the fun W9 h9 => ?_
      have E7 : Hid (Ext w3 W9) := hide (by rw [h9]; first | (with_reducible exact ext_sets6 EX (by first | exact Nat.le_refl _ | exact Below.size (by assumption))) | exact Ext.trans EX (Ext.alloc _ _))
      clear h9 EX HS HW3 HFS HRM
      go_wp2_with fail
      refine (HAW.out _).mono ?_
      rintro e w9 ⟨rfl, e9⟩
      have E9 := hide e9
      clear e9
      go_wp2
      go_ret
      exact ⟨rfl, Ext.trans HX.out (Ext.trans E3.out (Ext.trans E7.out E9.out))⟩)
  have hv2 : trcF (fastT m T) = 0 := by rcases HFA2.out with h | h; exact h.2; omega
  have HLE := hide (fast_le (f0 := f0) (s0 := s0) (r0 := r0) HG1.out HG2.out hv2 HM.out.1 HG3.out HG4.out (by rw [HSQ.out]; exact HSM.out) (by have := HNO.out; rw [HXA2.out] at this; rw [HFX.out]; exact this))
  rw [HFX.out, HFY.out] at HLE
  have HW3 : Hid (∀ W, Ext w W → ∀ uA un uc, At W 2 e2 uA un uc (fastT m T) → Calls Try.prog 8 #[shV lA ln lc sA sn sc qA qn qc, .slice uA un uc, plV d0 s0 r0 1000000000 i0 k0 l0 t0 lo0 hi0 a0 x0 y0 z0, .slice cA cn cc] W fun e w' => (∃ ycA ycc yaA yac yrA yrc ytA ytc, e = .returned (.tuple #[.agg #[.slice ycA Y.ch.length ycc, .slice yaA Y.asd.length yac, .slice yrA Y.arr.length yrc, .int .i64 Y.w.beg, .slice ytA Y.w.stalls.length ytc, .int .i64 (Y.w.at_ + Y.w.buf)], .int .i64 v]) ∧ At w' 1 e64 yrA Y.arr.length yrc Y.arr ∧ Hid (Y.arr.length = L.length) ∧ (∀ a, yrA = some a → W.heap.size ≤ a.block)) ∧ Ext W w') := hide (fun W hW uA un uc hu => (HW2.out W hW uA un uc hu).mono fun e w' hg => by
    obtain ⟨vS, rfl, ⟨ycA, ycc, yaA, yac, yrA, yrc, ytA, ytc, rfl, q1, q2, q3, q4, q5⟩, hlens⟩ := hg.2.2 hv
    exact ⟨⟨ycA, ycc, yaA, yac, yrA, yrc, ytA, ytc, by rw [hv], q3, hide hlens.2.2.1, fun a ha => q5 a (.inr (.inr (.inl ha)))⟩, hg.1⟩)
  have j1 : (v != 0) = false := by simp [hv]
  clear hv hv2
  go_wp2_with fail
  have g0 : w3.cell? ⟨w.heap.size, 0, none⟩ = some (.slice lA ln lc) := (HB0.out _ E3.out).cell 0
  have g1 : w3.cell? ⟨w.heap.size, 1, none⟩ = some (.slice sA sn sc) := (HB0.out _ E3.out).cell 1
  have g2 : w3.cell? ⟨w.heap.size, 2, none⟩ = some (.slice qA qn qc) := (HB0.out _ E3.out).cell 2
  have g3 : w3.cell? ⟨w.heap.size + 1, 0, none⟩ = some (.int .i64 d0) := (HB1.out _ E3.out).cell 0
  have g4 : w3.cell? ⟨w.heap.size + 1, 1, none⟩ = some (.int .i64 s0) := (HB1.out _ E3.out).cell 1
  have g5 : w3.cell? ⟨w.heap.size + 1, 2, none⟩ = some (.int .i64 r0) := (HB1.out _ E3.out).cell 2
  have g6 : w3.cell? ⟨w.heap.size + 1, 3, none⟩ = some (.int .i64 f0) := (HB1.out _ E3.out).cell 3
  have g7 : w3.cell? ⟨w.heap.size + 1, 4, none⟩ = some (.int .i64 i0) := (HB1.out _ E3.out).cell 4
  have g8 : w3.cell? ⟨w.heap.size + 1, 5, none⟩ = some (.int .i64 k0) := (HB1.out _ E3.out).cell 5
  have g9 : w3.cell? ⟨w.heap.size + 1, 6, none⟩ = some (.int .i64 l0) := (HB1.out _ E3.out).cell 6
  have g10 : w3.cell? ⟨w.heap.size + 1, 7, none⟩ = some (.int .i64 t0) := (HB1.out _ E3.out).cell 7
  have g11 : w3.cell? ⟨w.heap.size + 1, 8, none⟩ = some (.int .i64 lo0) := (HB1.out _ E3.out).cell 8
  have g12 : w3.cell? ⟨w.heap.size + 1, 9, none⟩ = some (.int .i64 hi0) := (HB1.out _ E3.out).cell 9
  have g13 : w3.cell? ⟨w.heap.size + 1, 10, none⟩ = some (.int .i64 a0) := (HB1.out _ E3.out).cell 10
  have g14 : w3.cell? ⟨w.heap.size + 1, 11, none⟩ = some (.int .i64 x0) := (HB1.out _ E3.out).cell 11
  have g15 : w3.cell? ⟨w.heap.size + 1, 12, none⟩ = some (.int .i64 y0) := (HB1.out _ E3.out).cell 12
  have g16 : w3.cell? ⟨w.heap.size + 1, 13, none⟩ = some (.int .i64 z0) := (HB1.out _ E3.out).cell 13
  have HS : Hid (∀ w', Ext w3 w' → w'.cell? ⟨w.heap.size, 0, none⟩ = some (.slice lA ln lc) ∧ w'.cell? ⟨w.heap.size, 1, none⟩ = some (.slice sA sn sc) ∧ w'.cell? ⟨w.heap.size, 2, none⟩ = some (.slice qA qn qc) ∧ w'.cell? ⟨w.heap.size + 1, 0, none⟩ = some (.int .i64 d0) ∧ w'.cell? ⟨w.heap.size + 1, 1, none⟩ = some (.int .i64 s0) ∧ w'.cell? ⟨w.heap.size + 1, 2, none⟩ = some (.int .i64 r0) ∧ w'.cell? ⟨w.heap.size + 1, 3, none⟩ = some (.int .i64 f0) ∧ w'.cell? ⟨w.heap.size + 1, 4, none⟩ = some (.int .i64 i0) ∧ w'.cell? ⟨w.heap.size + 1, 5, none⟩ = some (.int .i64 k0) ∧ w'.cell? ⟨w.heap.size + 1, 6, none⟩ = some (.int .i64 l0) ∧ w'.cell? ⟨w.heap.size + 1, 7, none⟩ = some (.int .i64 t0) ∧ w'.cell? ⟨w.heap.size + 1, 8, none⟩ = some (.int .i64 lo0) ∧ w'.cell? ⟨w.heap.size + 1, 9, none⟩ = some (.int .i64 hi0) ∧ w'.cell? ⟨w.heap.size + 1, 10, none⟩ = some (.int .i64 a0) ∧ w'.cell? ⟨w.heap.size + 1, 11, none⟩ = some (.int .i64 x0) ∧ w'.cell? ⟨w.heap.size + 1, 12, none⟩ = some (.int .i64 y0) ∧ w'.cell? ⟨w.heap.size + 1, 13, none⟩ = some (.int .i64 z0)) := hide (fun w' EX => ⟨EX.cell g0, EX.cell g1, EX.cell g2, EX.cell g3, EX.cell g4, EX.cell g5, EX.cell g6, EX.cell g7, EX.cell g8, EX.cell g9, EX.cell g10, EX.cell g11, EX.cell g12, EX.cell g13, EX.cell g14, EX.cell g15, EX.cell g16⟩)
  have EX := Ext.drew w3
  go_region_held3 (fun w' => w'.cell? ⟨w.heap.size, 0, none⟩ = some (.slice lA ln lc) ∧ w'.cell? ⟨w.heap.size, 1, none⟩ = some (.slice sA sn sc) ∧ w'.cell? ⟨w.heap.size, 2, none⟩ = some (.slice qA qn qc) ∧ w'.cell? ⟨w.heap.size + 1, 0, none⟩ = some (.int .i64 d0) ∧ w'.cell? ⟨w.heap.size + 1, 1, none⟩ = some (.int .i64 s0) ∧ w'.cell? ⟨w.heap.size + 1, 2, none⟩ = some (.int .i64 r0) ∧ w'.cell? ⟨w.heap.size + 1, 3, none⟩ = some (.int .i64 f0) ∧ w'.cell? ⟨w.heap.size + 1, 4, none⟩ = some (.int .i64 i0) ∧ w'.cell? ⟨w.heap.size + 1, 5, none⟩ = some (.int .i64 k0) ∧ w'.cell? ⟨w.heap.size + 1, 6, none⟩ = some (.int .i64 l0) ∧ w'.cell? ⟨w.heap.size + 1, 7, none⟩ = some (.int .i64 t0) ∧ w'.cell? ⟨w.heap.size + 1, 8, none⟩ = some (.int .i64 lo0) ∧ w'.cell? ⟨w.heap.size + 1, 9, none⟩ = some (.int .i64 hi0) ∧ w'.cell? ⟨w.heap.size + 1, 10, none⟩ = some (.int .i64 a0) ∧ w'.cell? ⟨w.heap.size + 1, 11, none⟩ = some (.int .i64 x0) ∧ w'.cell? ⟨w.heap.size + 1, 12, none⟩ = some (.int .i64 y0) ∧ w'.cell? ⟨w.heap.size + 1, 13, none⟩ = some (.int .i64 z0)) (first
    | (with_reducible exact HS.out _ EX)
    | (with_reducible exact HS.out _ (ext_sets6 EX (by first | exact Nat.le_refl _ | exact Below.size (by assumption))))
    | (with_reducible exact HS.out _ (Ext.trans EX (Ext.alloc _ _)))) (first
    | (go_at_call 12; (first | with_reducible refine (HFS.out _ (Ext.trans HX.out (Ext.trans E3.out EX))).mono ?_ | with_reducible refine (HFS.out _ (Ext.trans HX.out (Ext.trans E3.out (Ext.trans (Ext.alloc _ _) (Ext.drew _))))).mono ?_); rintro e w5 ⟨uA, uc, rfl, u5, e5⟩; have EX : Ext w3 w5 := (by first | with_reducible exact Ext.trans EX e5 | with_reducible exact Ext.trans (Ext.trans (Ext.alloc _ _) (Ext.drew _)) e5))
    | (go_at_call 13; with_reducible refine (HRM.out _).mono ?_; rintro e w6 ⟨rfl, e6⟩; have EX : Ext w3 w6 := (by first | with_reducible exact Ext.trans EX e6 | with_reducible exact Ext.trans (Ext.trans EX (Ext.alloc _ _)) e6))
    | (go_at_call 8; (first | with_reducible refine (HW3.out _ (Ext.trans HX.out (Ext.trans E3.out EX)) _ _ _ (u5.ext ?_)).mono ?_ | with_reducible refine (HW3.out _ (Ext.trans HX.out (Ext.trans E3.out (Ext.trans EX (Ext.alloc _ _)))) _ _ _ (u5.ext ?_)).mono ?_); (first | with_reducible exact Ext.refl _ | with_reducible exact e6 | with_reducible exact Ext.alloc _ _ | with_reducible exact Ext.trans (Ext.alloc _ _) e6 | with_reducible exact Ext.trans e6 (Ext.alloc _ _)); rintro e w7 ⟨⟨ycA, ycc, yaA, yac, yrA, yrc, ytA, ytc, rfl, q3, hyl, hyb⟩, e7⟩; have EX : Ext w3 w7 := (by first | with_reducible exact Ext.trans EX e7 | with_reducible exact Ext.trans (Ext.trans EX (Ext.alloc _ _)) e7); (first | (with_reducible have BB := (Blk.new _ 33 #[.slice none 0 0, .slice none 0 0, .slice none 0 0, .int .i64 0, .slice none 0 0, .int .i64 0]).ext e7; have BL := Nat.lt_succ_self w6.heap.size; have bb0 : w7.cell? ⟨_, 0, none⟩ = some (.slice none 0 0) := BB.cell 0; have bf0 : w7.frozen? ⟨_, 0, none⟩ = false := BB.frozen 0; have bb1 : w7.cell? ⟨_, 1, none⟩ = some (.slice none 0 0) := BB.cell 1; have bf1 : w7.frozen? ⟨_, 1, none⟩ = false := BB.frozen 1; have bb2 : w7.cell? ⟨_, 2, none⟩ = some (.slice none 0 0) := BB.cell 2; have bf2 : w7.frozen? ⟨_, 2, none⟩ = false := BB.frozen 2; have bb3 : w7.cell? ⟨_, 3, none⟩ = some (.int .i64 0) := BB.cell 3; have bf3 : w7.frozen? ⟨_, 3, none⟩ = false := BB.frozen 3; have bb4 : w7.cell? ⟨_, 4, none⟩ = some (.slice none 0 0) := BB.cell 4; have bf4 : w7.frozen? ⟨_, 4, none⟩ = false := BB.frozen 4; have bb5 : w7.cell? ⟨_, 5, none⟩ = some (.int .i64 0) := BB.cell 5; have bf5 : w7.frozen? ⟨_, 5, none⟩ = false := BB.frozen 5) | (with_reducible have BB := (Blk.new _ 33 #[.slice none 0 0, .slice none 0 0, .slice none 0 0, .int .i64 0, .slice none 0 0, .int .i64 0]).ext (Ext.trans e6 e7); with_reducible have BL := ((Blk.new _ 33 #[.slice none 0 0, .slice none 0 0, .slice none 0 0, .int .i64 0, .slice none 0 0, .int .i64 0]).ext e6).lt; have bb0 : w7.cell? ⟨_, 0, none⟩ = some (.slice none 0 0) := BB.cell 0; have bf0 : w7.frozen? ⟨_, 0, none⟩ = false := BB.frozen 0; have bb1 : w7.cell? ⟨_, 1, none⟩ = some (.slice none 0 0) := BB.cell 1; have bf1 : w7.frozen? ⟨_, 1, none⟩ = false := BB.frozen 1; have bb2 : w7.cell? ⟨_, 2, none⟩ = some (.slice none 0 0) := BB.cell 2; have bf2 : w7.frozen? ⟨_, 2, none⟩ = false := BB.frozen 2; have bb3 : w7.cell? ⟨_, 3, none⟩ = some (.int .i64 0) := BB.cell 3; have bf3 : w7.frozen? ⟨_, 3, none⟩ = false := BB.frozen 3; have bb4 : w7.cell? ⟨_, 4, none⟩ = some (.slice none 0 0) := BB.cell 4; have bf4 : w7.frozen? ⟨_, 4, none⟩ = false := BB.frozen 4; have bb5 : w7.cell? ⟨_, 5, none⟩ = some (.int .i64 0) := BB.cell 5; have bf5 : w7.frozen? ⟨_, 5, none⟩ = false := BB.frozen 5) | (with_reducible have BB := (Blk.new _ 33 #[.slice none 0 0, .slice none 0 0, .slice none 0 0, .int .i64 0, .slice none 0 0, .int .i64 0]).drew.ext (Ext.trans e5 (Ext.trans e6 e7)); with_reducible have BL := ((Blk.new _ 33 #[.slice none 0 0, .slice none 0 0, .slice none 0 0, .int .i64 0, .slice none 0 0, .int .i64 0]).drew.ext (Ext.trans e5 e6)).lt; have bb0 : w7.cell? ⟨_, 0, none⟩ = some (.slice none 0 0) := BB.cell 0; have bf0 : w7.frozen? ⟨_, 0, none⟩ = false := BB.frozen 0; have bb1 : w7.cell? ⟨_, 1, none⟩ = some (.slice none 0 0) := BB.cell 1; have bf1 : w7.frozen? ⟨_, 1, none⟩ = false := BB.frozen 1; have bb2 : w7.cell? ⟨_, 2, none⟩ = some (.slice none 0 0) := BB.cell 2; have bf2 : w7.frozen? ⟨_, 2, none⟩ = false := BB.frozen 2; have bb3 : w7.cell? ⟨_, 3, none⟩ = some (.int .i64 0) := BB.cell 3; have bf3 : w7.frozen? ⟨_, 3, none⟩ = false := BB.frozen 3; have bb4 : w7.cell? ⟨_, 4, none⟩ = some (.slice none 0 0) := BB.cell 4; have bf4 : w7.frozen? ⟨_, 4, none⟩ = false := BB.frozen 4; have bb5 : w7.cell? ⟨_, 5, none⟩ = some (.int .i64 0) := BB.cell 5; have bf5 : w7.frozen? ⟨_, 5, none⟩ = false := BB.frozen 5) | skip)))
  all_goals (
    refine gen_the fun W9 h9 => ?_
    have E7 : Hid (Ext w3 W9) := hide (by rw [h9]; first | (with_reducible exact ext_sets6 EX (by first | exact Nat.le_refl _ | exact Below.size (by assumption))) | exact Ext.trans EX (Ext.alloc _ _))
    first
      | have B9 : Blk W9 w6.heap.size 33 #[.slice ycA Y.ch.length ycc, .slice yaA Y.asd.length yac, .slice yrA Y.arr.length yrc, .int .i64 Y.w.beg, .slice ytA Y.w.stalls.length ytc, .int .i64 (Y.w.at_ + Y.w.buf)] := (by rewrite [h9]; with_reducible exact blk_sets6 BB)
      | have B9 : Blk W9 w5.heap.size 33 #[.slice ycA Y.ch.length ycc, .slice yaA Y.asd.length yac, .slice yrA Y.arr.length yrc, .int .i64 Y.w.beg, .slice ytA Y.w.stalls.length ytc, .int .i64 (Y.w.at_ + Y.w.buf)] := (by rewrite [h9]; with_reducible exact blk_sets6 BB)
      | have B9 : Blk W9 w3.heap.size 33 #[.slice ycA Y.ch.length ycc, .slice yaA Y.asd.length yac, .slice yrA Y.arr.length yrc, .int .i64 Y.w.beg, .slice ytA Y.w.stalls.length ytc, .int .i64 (Y.w.at_ + Y.w.buf)] := (by rewrite [h9]; with_reducible exact blk_sets6 BB)
      | have B9 : Blk W9 w7.heap.size 33 #[.slice ycA Y.ch.length ycc, .slice yaA Y.asd.length yac, .slice yrA Y.arr.length yrc, .int .i64 Y.w.beg, .slice ytA Y.w.stalls.length ytc, .int .i64 (Y.w.at_ + Y.w.buf)] := (by rewrite [h9]; with_reducible exact Blk.new _ _ _)
    have q4 : At W9 1 e64 yrA Y.arr.length yrc Y.arr := by
      first
        | (have BB' := BB; (try simp only [World.size_alloc] at hyb); (try simp only [World.size_alloc] at BL); have T9 : ∃ g, g < w7.heap.size ∧ (∀ a, yrA = some a → g < a.block) ∧ Tw w7 W9 g none := ⟨_, BB'.lt, fun a ha => Nat.lt_of_lt_of_le BL (hyb a ha), by rewrite [h9]; with_reducible exact tw_sets6⟩; obtain ⟨g, _, t1, t2⟩ := T9; exact q3.tw t2 (fun a ha => ⟨by have := t1 a ha; omega, by simp⟩))
        | (have X9 : Ext w7 W9 := (by rewrite [h9]; exact Ext.alloc _ _); exact q3.ext X9)
    clear h9 EX HS HW3 HFS HRM
    have BY := hide B9
    have BX := hide (HB3.out.ext E7.out)
    have RY := hide q4
    have RX := hide (HR3.out.ext E7.out)
    have HN := hide (show Y.arr.length = X.arr.length by have := hyl.out; have := HXR.out; have := HXA2.out; omega)
    have HN2 := hide (show X.arr.length = L.length by have := HXR.out; have := HXA2.out; omega)
    have HN3 := hide (show X.arr.length ≤ 200 by have := HXR.out; have := HXA.out; omega)
    have hn1 : ((Y.arr.length : Int) != (X.arr.length : Int)) = false := by rw [HN.out]; simp
    have d2 := BY.out.cell 2
    have d3 := BX.out.cell 2
    clear q4 B9 HB3 HR3 hyb
    (try clear BB bb0 bb1 bb2 bb3 bb4 bb5 bf0 bf1 bf2 bf3 bf4 bf5 BL)
    go_wp2_with fail
    go_loopw [81] (fun ri wr => ∃ k : Nat, k ≤ X.arr.length ∧ ri = .int .i64 k ∧ Hid (Ext W9 wr)) (fun ri _ => X.arr.length - (intOf ri).toNat)
    case atStart => exact ⟨0, by omega, rfl, hide (Ext.refl _)⟩
    case round =>
      obtain ⟨k, hk, rfl, HE⟩ := hrel
      by_cases hlt : k < X.arr.length
      · have RX2 := hide (RX.out.ext HE.out)
        have RY2 := hide (RY.out.ext HE.out)
        obtain ⟨b, off, rfl, _⟩ := RX2.out.addr (by omega)
        obtain ⟨b', off', rfl, _⟩ := RY2.out.addr (by have := HN.out; omega)
        have a1 := RX2.out.num hlt
        have a2 := RY2.out.num (k := k) (by have := HN.out; omega)
        have dd2 := (BY.out.ext HE.out).cell 2
        have dd3 := (BX.out.ext HE.out).cell 2
        have hyn : (k : Int) < (Y.arr.length : Int) := by have := HN.out; omega
        have hle := HLE.out k (by have := HN2.out; omega)
        have hb3 := HN3.out
        generalize X.arr.getD k 0 = x at *
        generalize Y.arr.getD k 0 = y at *
        have j2 : decide (x < y) = false := by simp; omega
        clear hle d2 d3
        go_wp2_with fail
        go_quiet (fail)
        go_wp2_with fail
        go_round
        case rel => exact ⟨k + 1, by omega, by rw [Int.natCast_add]; rfl, hide (Ext.trans HE.out (Ext.drewN _ _))⟩
        case measure => simp [intOf]; omega
      · obtain rfl : k = X.arr.length := by omega
        clear hlt
        go_wp2_with fail
        refine (HAW.out _).mono ?_
        rintro e w9 ⟨rfl, e9⟩
        have E9 := hide e9
        clear e9
        go_wp2
        go_ret
        exact ⟨rfl, Ext.trans HX.out (Ext.trans E3.out (Ext.trans E7.out (Ext.trans HE.out E9.out)))⟩)

set_option maxRecDepth 100000 in
theorem playFasterIsNotLater_lifted (os : Os) (started : os.Started) (H : Type) (enc : TypeId × Value → H) :
    ReturnsInHanded {} Try.checked os 3 .any (Rows.playFasterIsNotLaterSpec.pre6 enc Try.prog Try.f3 Rows.playFasterIsNotLaterRow.domain false) (Rows.playFasterIsNotLaterSpec.post enc Try.prog Try.f3 false true false false) := by
  refine returnsInHanded_of_change_sized (C := Try.checked) Try.own started (by kernel_rfl) Try.func3
    (ChangeSpec.witness6 (enc := enc) (C := Try.checked) false ⟨#[], #[.agg #[.slice none 0 0, .slice none 0 0, .slice none 0 0], .slice none 0 0, .agg #[.int .i64 0, .int .i64 0, .int .i64 0, .int .i64 0, .int .i64 0, .int .i64 0, .int .i64 0, .int .i64 0, .int .i64 0, .int .i64 0, .int .i64 0, .int .i64 0, .int .i64 0, .int .i64 0], .slice none 0 0, .int .i64 0], []⟩ 8 (by kernel_rfl) (by kernel_rfl) (by kernel_rfl) (by kernel_rfl)) ?_
  intro W base args ds gs before hval0 hW _ _ _
  have hval : ∀ (j : Nat) t v, Try.f3.params[j]? = some t → args[j]? = some v → Value.okWide Try.prog W .any base t v := hval0
  have hW' := hW
  obtain ⟨p, q, hA0, hV, rfl, _, _⟩ := hW
  have hA : DataW.TrodAll enc Try.prog W 0 (fun _ => true) true Try.f3.params.toList args.toList ds p := hA0
  rw [Try.params3] at hA hval
  obtain ⟨v0, v1, v2, v3, v4, d0, d1, d2, d3, d4, p0, p1, p2, p3, p4, rfl, rfl, rfl, h0, h1, h2, h3, h4⟩ := trodAll5 hA
  obtain ⟨lA, ln, lc, sA, sn, sc, qA, qn, qc, L, S, Q, rfl, hSh⟩ := open_show (hval 0 25 v0 rfl rfl) h0
  obtain ⟨A1, n1, c1, l1, rfl, hAt1, _, _⟩ := open_flows (hval 1 26 v1 rfl rfl) h1
  obtain ⟨q0, q1, q2, q3, q4, q5, q6, q7, q8, q9, q10, q11, q12, q13, rfl⟩ := open_player (hval 2 30 v2 rfl rfl) h2
  obtain ⟨A3, n3, c3, l3, rfl, hAt3, _, _⟩ := open_intsP Try.underlying22 Try.underlying3 cellsInt (hval 3 22 v3 rfl rfl) h3
  obtain ⟨x4, rfl, rfl, rfl, _⟩ := open_int Try.underlying3 (hval 4 3 v4 rfl rfl) h4
  refine (faster_law hSh hAt1 hAt3).mono fun e W' ⟨he, hE⟩ => ?_
  subst he
  exact ⟨_, rfl, law_post Try.laidOut Try.underlying4 hW' rfl rfl rfl (by kernel_rfl) hE⟩
theorem playFasterIsNotLater_closed : joinedFacts Try.prog 3 Try.f3 Rows.playFasterIsNotLaterSpec Rows.playFasterIsNotLaterRow = true :=
  joined_of Try.laidOut Try.mapsRowed Try.plainKeys Try.stopsHeard Try.stopsNone Try.knobsNone Try.mayEnter Try.makeCut Try.liftsFinal rfl rfl rfl (by as_aux_lemma => kernel_rfl)
    (by as_aux_lemma => kernel_rfl) (by as_aux_lemma => kernel_rfl) (by as_aux_lemma => kernel_rfl) (by as_aux_lemma => kernel_rfl) (by as_aux_lemma => kernel_rfl) (by as_aux_lemma => kernel_rfl) (by as_aux_lemma => kernel_rfl) (by as_aux_lemma => kernel_rfl) (by as_aux_lemma => kernel_rfl) (by as_aux_lemma => kernel_rfl)
theorem playFasterIsNotLater_holds : Rows.PlayFasterIsNotLaterSaid :=
  OpenClaim.holds_of_wide 3 Try.f3 rfl rfl rfl rfl rfl rfl rfl ⟨rfl, rfl, rfl, rfl, rfl⟩ rfl rfl rfl rfl rfl (by as_aux_lemma => kernel_rfl) Try.func3 playFasterIsNotLater_closed
    (of_decide_eq_true (by kernel_rfl)) (by unfold Func.isWrapper; first | (rw [if_pos (by decide +kernel)]; kernel_rfl) | (rw [if_neg (by decide +kernel)]; exact ⟨rfl, rfl⟩))
    (fun os started H enc _ => playFasterIsNotLater_lifted os started H enc)
#print axioms playFasterIsNotLater_holds

end Go.Proofs.Ytjbgkoeojfmkkaa
