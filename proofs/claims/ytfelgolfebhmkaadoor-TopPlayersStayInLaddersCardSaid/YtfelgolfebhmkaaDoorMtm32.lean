/- Several texts in one: Walks: wide.Scaled and planner.takes: they come to an end. Conditions as stated; Walks: planner.takes and planner.from come to an end, and the first rendition is one. Conditions as stated. -/
import Derived.Test.YtfelgolfebhmkaaDoorMtm31
import Derived.Test.YtfelgolfebhmkaaDoorMtm25
import Derived.Test.YtfelgolfebhmkaaDoorMtm07
import Derived.Test.YtfelgolfebhmkaaDoorMtm02
namespace Go.Proofs.YtfelgolfebhmkaaDoor
open Go.RowKit
theorem rounds_some (wy r p : Int) (w : World) : Calls Tryd.prog 78 #[.int .i64 wy, .bool false, .int .u64 r, .int .u64 p] w fun e w' => (∃ b : Bool, e = .returned (.bool b)) ∧ Ext w w' := by
  by_cases h1 : wy = 1
  · have e1 : (wy == 1) = true := by simp [h1]
    clear h1
    go_enter Tryd.func78, Tryd.ntmps78
    go_wp2
    all_goals (go_ret; exact ⟨⟨_, rfl⟩, (by repeat' (first | (with_reducible first | exact Below.refl _ _ | assumption | refine below_drewN ?_ _ | refine Below.drew ?_ | refine ext_alloc ?_ _ | refine Below.setCell ?_ ?_ _) | go_size))⟩)
  have e1 : (wy == 1) = false := by simp [h1]
  by_cases h3 : wy = 3
  · have e3 : (wy == 3) = true := by simp [h3]
    clear h1 h3
    go_enter Tryd.func78, Tryd.ntmps78
    go_wp2
    all_goals (go_ret; exact ⟨⟨_, rfl⟩, (by repeat' (first | (with_reducible first | exact Below.refl _ _ | assumption | refine below_drewN ?_ _ | refine Below.drew ?_ | refine ext_alloc ?_ _ | refine Below.setCell ?_ ?_ _) | go_size))⟩)
  have e3 : (wy == 3) = false := by simp [h3]
  clear h1 h3
  go_enter Tryd.func78, Tryd.ntmps78
  go_wp2
  all_goals (go_ret; exact ⟨⟨_, rfl⟩, (by repeat' (first | (with_reducible first | exact Below.refl _ _ | assumption | refine below_drewN ?_ _ | refine Below.drew ?_ | refine ext_alloc ?_ _ | refine Below.setCell ?_ ?_ _) | go_size))⟩)
set_option maxRecDepth 100000 in
set_option maxHeartbeats 4000000 in
theorem scaled_some (n : Nat) (hn : n < 9223372036854775808) (b p wy : Int) (w : World) : Calls Tryd.prog 74 #[.int .i64 (n : Int), .int .i64 b, .int .i64 p, .int .i64 wy] w fun e w' => (∃ q : Int, e = .returned (.int .i64 q)) ∧ Ext w w' := by
  have HS := hide (fun (W : World) => size_any64 n hn W)
  obtain ⟨bn, hb, hb2⟩ : ∃ bn : Nat, IntKind.u64.wrap b = (bn : Int) ∧ bn < 18446744073709551616 := ⟨(IntKind.u64.wrap b).toNat, by rw [IntKind.wrap_u64]; omega, by rw [IntKind.wrap_u64]; omega⟩
  obtain ⟨pn, hp, hp2⟩ : ∃ pn : Nat, IntKind.u64.wrap p = (pn : Int) ∧ pn < 18446744073709551616 := ⟨(IntKind.u64.wrap p).toNat, by rw [IntKind.wrap_u64]; omega, by rw [IntKind.wrap_u64]; omega⟩
  have HM := hide (fun (W : World) => mul64_any n bn (by omega) hb2 W)
  generalize n * bn / 18446744073709551616 = hi at *
  generalize n * bn % 18446744073709551616 = lo at *
  have HD := hide (fun (h : hi < pn) (W : World) => div64_some hi lo pn h hp2 W)
  have HR := hide (fun (r : Int) (W : World) => rounds_some wy r (pn : Int) W)
  have h0 : ¬ ((n : Int) < 0) := by omega
  clear hn hb2 hp2
  have fin : ∀ (q r : Int) (W : World), True := fun _ _ _ => trivial
  clear fin
  go_enter Tryd.func74, Tryd.ntmps74
  go_wp2_with fail
  refine (HS.out _).mono ?_
  rintro e w1 ⟨rfl, rfl⟩
  go_wp2_with fail
  refine (HM.out _).mono ?_
  rintro e w2 ⟨rfl, rfl⟩
  by_cases hlt : hi < pn
  · have i0 : (hi : Int) < (pn : Int) := by omega
    go_wp2_with fail
    refine (HD.out hlt _).mono ?_
    rintro e w3 ⟨⟨q, r, rfl⟩, e3⟩
    go_wp2_with fail
    refine (HR.out _ _).mono ?_
    rintro e w4 ⟨⟨bb, rfl⟩, e4⟩
    have E4 := hide (Ext.trans e3 e4)
    clear e3 e4
    cases bb
    · by_cases hq : 1152921504606846976 < q <;> go_wp2
      all_goals (go_ret; exact ⟨⟨_, rfl⟩, E4.out⟩)
    · by_cases hq : 1152921504606846976 < IntKind.u64.wrap (q + 1) <;> go_wp2
      all_goals (go_ret; exact ⟨⟨_, rfl⟩, E4.out⟩)
  · have i0 : ¬ (hi : Int) < (pn : Int) := by omega
    go_wp2_with fail
    refine (HR.out _ _).mono ?_
    rintro e w4 ⟨⟨bb, rfl⟩, e4⟩
    cases bb
    · go_wp2
      all_goals (go_ret; exact ⟨⟨_, rfl⟩, e4⟩)
    · go_wp2
      all_goals (go_ret; exact ⟨⟨_, rfl⟩, e4⟩)
section
variable {lA : Option Addr} {ln lc : Nat} {sA : Option Addr} {sn sc : Nat} {qA : Option Addr} {qn qc : Nat} {L : List Int} {S : List (List Int)} {Q : List Int} {d0 s0 r0 f0 i0 k0 l0 t0 lo0 hi0 a0 x0 y0 z0 : Int} {nx tm bu bf : Int} {ldA : Option Addr} {ldn ldc : Nat} {w : World} {G : Nat} {en bi lg : Int}
set_option maxRecDepth 1000000 in
set_option maxHeartbeats 8000000 in
theorem takes_some {be fi : Int} {fo : Bool} {z : Int} (hz : 0 ≤ z ∧ z ≤ 1000000000) (hB : Blk w G 102 #[.slice lA ln lc, .slice sA sn sc, .slice qA qn qc, .int .i64 d0, .int .i64 s0, .int .i64 r0, .int .i64 f0, .int .i64 i0, .int .i64 k0, .int .i64 l0, .int .i64 t0, .int .i64 lo0, .int .i64 hi0, .int .i64 a0, .int .i64 x0, .int .i64 y0, .int .i64 z0, .int .i64 nx, .int .i64 en, .int .i64 bi, .int .i64 lg, .int .i64 be, .int .i64 fi, .bool fo]) :
    Calls Tryd.prog 64 #[.pointer (some ⟨G, 0, none⟩), .int .i64 z] w fun e w' => (∃ q : Int, e = .returned (.int .i64 q)) ∧ Ext w w' := by
  obtain ⟨hz1, hz2⟩ := hz
  have c3 : w.cell? ⟨G, 3, none⟩ = some (.int .i64 d0) := hB.cell 3
  have c10 : w.cell? ⟨G, 10, none⟩ = some (.int .i64 t0) := hB.cell 10
  have c19 : w.cell? ⟨G, 19, none⟩ = some (.int .i64 bi) := hB.cell 19
  have c20 : w.cell? ⟨G, 20, none⟩ = some (.int .i64 lg) := hB.cell 20
  have hz3 : IntKind.i64.wrap (1000 * z) = 1000 * z := by rw [IntKind.wrap_i64]; omega
  have HS := hide (fun (W : World) (p : Int) => scaled_some (1000 * z).toNat (by omega) lg p 3 W)
  rw [Int.toNat_of_nonneg (by omega)] at HS
  by_cases h1 : bi = 0
  · have e1 : (bi == 0) = true := by simp [h1]
    clear h1
    go_enter Tryd.func64, Tryd.ntmps64
    go_wp2
    go_ret
    exact ⟨⟨_, rfl⟩, Ext.refl _⟩
  have e1 : (bi == 0) = false := by simp [h1]
  by_cases h2 : lg = 0
  · have e2 : (lg == 0) = true := by simp [h2]
    clear h1 h2
    go_enter Tryd.func64, Tryd.ntmps64
    go_wp2
    go_ret
    exact ⟨⟨_, rfl⟩, Ext.refl _⟩
  have e2 : (lg == 0) = false := by simp [h2]
  clear h1 h2 hB
  go_enter Tryd.func64, Tryd.ntmps64
  go_wp2_with fail
  have EX := Ext.drew w
  go_region_held3 (fun w' => w'.cell? ⟨G, 3, none⟩ = some (.int .i64 d0) ∧ w'.cell? ⟨G, 10, none⟩ = some (.int .i64 t0) ∧ w'.cell? ⟨G, 19, none⟩ = some (.int .i64 bi) ∧ w'.cell? ⟨G, 20, none⟩ = some (.int .i64 lg)) (first | exact ⟨EX.cell c3, EX.cell c10, EX.cell c19, EX.cell c20⟩ | go_keep) (first | ((go_at_call 74; with_reducible refine (HS.out _ _).mono ?_); rintro e w2 ⟨⟨q, rfl⟩, e2⟩; have EX := Ext.trans EX e2))
  all_goals (go_wp2; go_ret; exact ⟨⟨_, rfl⟩, EX⟩)
def FrmGives (w : World) (G : Nat) (lA : Option Addr) (ln lc : Nat) (sA : Option Addr) (sn sc : Nat) (qA : Option Addr) (qn qc : Nat) (d0 s0 r0 f0 i0 k0 l0 t0 lo0 hi0 a0 x0 y0 z0 nx en bi lg : Int) (e : Ending) (w' : World) : Prop :=
  e = .returned (.tuple #[]) ∧ Ext w w' ∧ ∃ (be : Int) (fi : Nat) (fo : Bool), fi < sn ∧ Blk w' G 102 #[.slice lA ln lc, .slice sA sn sc, .slice qA qn qc, .int .i64 d0, .int .i64 s0, .int .i64 r0, .int .i64 f0, .int .i64 i0, .int .i64 k0, .int .i64 l0, .int .i64 t0, .int .i64 lo0, .int .i64 hi0, .int .i64 a0, .int .i64 x0, .int .i64 y0, .int .i64 z0, .int .i64 nx, .int .i64 en, .int .i64 bi, .int .i64 lg, .int .i64 be, .int .i64 (fi : Int), .bool fo]
set_option maxRecDepth 1000000 in
set_option maxHeartbeats 16000000 in
theorem from_zero {eN : Nat} (hG : w.heap.size ≤ G) (hen : en = (eN : Int)) {n f : Nat} {b x v : Int} {W : World} {be : Int} {fi : Nat} {fo : Bool} (hn : n = eN) (hf : f < sn) (hfi : fi < sn) (hX : Ext w W) (hB : Blk W G 102 #[.slice lA ln lc, .slice sA sn sc, .slice qA qn qc, .int .i64 d0, .int .i64 s0, .int .i64 r0, .int .i64 f0, .int .i64 i0, .int .i64 k0, .int .i64 l0, .int .i64 t0, .int .i64 lo0, .int .i64 hi0, .int .i64 a0, .int .i64 x0, .int .i64 y0, .int .i64 z0, .int .i64 nx, .int .i64 en, .int .i64 bi, .int .i64 lg, .int .i64 be, .int .i64 (fi : Int), .bool fo]) :
    Calls Tryd.prog 49 #[.pointer (some ⟨G, 0, none⟩), .int .i64 (n : Int), .int .i64 b, .int .i64 x, .int .i64 v, .int .i64 (f : Int)] W (FrmGives w G lA ln lc sA sn sc qA qn qc d0 s0 r0 f0 i0 k0 l0 t0 lo0 hi0 a0 x0 y0 z0 nx en bi lg) := by
  have hnE : (n : Int) = en := by omega
  have e0 : ((n : Int) == en) = true := by simp [hnE]
  have c18 : W.cell? ⟨G, 18, none⟩ = some (.int .i64 en) := hB.cell 18
  have c21 : W.cell? ⟨G, 21, none⟩ = some (.int .i64 be) := hB.cell 21
  have c22 : W.cell? ⟨G, 22, none⟩ = some (.int .i64 (fi : Int)) := hB.cell 22
  have c23 : W.cell? ⟨G, 23, none⟩ = some (.bool fo) := hB.cell 23
  have f21 := hB.frozen 21
  have f22 := hB.frozen 22
  have f23 := hB.frozen 23
  have HB := hide hB
  have HX := hide hX
  have fin : ∀ W', W' = ((W.setCell ⟨G, 21, none⟩ (.int .i64 v)).setCell ⟨G, 22, none⟩ (.int .i64 (f : Int))).setCell ⟨G, 23, none⟩ (.bool true) → Ext w W' ∧ Blk W' G 102 #[.slice lA ln lc, .slice sA sn sc, .slice qA qn qc, .int .i64 d0, .int .i64 s0, .int .i64 r0, .int .i64 f0, .int .i64 i0, .int .i64 k0, .int .i64 l0, .int .i64 t0, .int .i64 lo0, .int .i64 hi0, .int .i64 a0, .int .i64 x0, .int .i64 y0, .int .i64 z0, .int .i64 nx, .int .i64 en, .int .i64 bi, .int .i64 lg, .int .i64 v, .int .i64 (f : Int), .bool true] := fun W' e => by
    subst e
    have T : Tw W (((W.setCell ⟨G, 21, none⟩ (.int .i64 v)).setCell ⟨G, 22, none⟩ (.int .i64 (f : Int))).setCell ⟨G, 23, none⟩ (.bool true)) G none := ((Tw.set_ _ _ _ _ _).trans (Tw.set_ _ _ _ _ _)).trans (Tw.set_ _ _ _ _ _)
    exact ⟨Below.trans HX.out (T.below HX.out.size hG (fun b hb => by cases hb)), ((HB.out.set_ 21 _).set_ 22 _).set_ 23 _⟩
  have FIN := hide fin
  clear fin hnE hn hB hX hen
  cases fo with
  | false =>
    go_enter Tryd.func49, Tryd.ntmps49
    go_wp2
    refine gen_bod fun W9 h9 => ?_
    obtain ⟨g1, g2⟩ := FIN.out W9 (by rw [h9])
    go_end0
    exact ⟨rfl, g1, _, _, _, hf, g2⟩
  | true =>
    by_cases hv : be < v
    · go_enter Tryd.func49, Tryd.ntmps49
      go_wp2
      refine gen_bod fun W9 h9 => ?_
      obtain ⟨g1, g2⟩ := FIN.out W9 (by rw [h9])
      go_end0
      exact ⟨rfl, g1, _, _, _, hf, g2⟩
    · go_enter Tryd.func49, Tryd.ntmps49
      go_wp2
      go_end0
      exact ⟨rfl, HX.out, _, _, _, hfi, HB.out⟩
end
end Go.Proofs.YtfelgolfebhmkaaDoor
