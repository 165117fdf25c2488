/- The statements' awake and comes: both are true. No condition. -/
import Derived.Test.YtajadgpkmommmaaOut
import Derived.Test.YtajadgpkmommmaaPairs
import Derived.Test.YtajadgpkmommmaaNetB
namespace Go.Proofs.Ytajadgpkmommmaa
open Go.RowKit

set_option maxHeartbeats 1000000 in
/-- Two slices that read as one list. -/
theorem intsEq_true {A1 A2 : Option Addr} {n1 c1 n2 c2 : Nat} {l : List Int} {w : World} (h1 : At w 1 e64 A1 n1 c1 l) (h2 : At w 1 e64 A2 n2 c2 l) :
    Calls Try.prog 29 #[.slice A1 n1 c1, .slice A2 n2 c2] w fun e w' => e = .returned (.bool true) ∧ Ext w w' := by
  obtain rfl : n1 = n2 := h1.len.symm.trans h2.len
  have hb := h1.bound
  have H1 := hide h1; have H2 := hide h2
  clear h1 h2
  go_enter Try.func29, Try.ntmps29
  go_wp2_with fail
  go_loopw [13] (fun ri wr => ∃ k : Nat, k ≤ n1 ∧ ri = .int .i64 k ∧ Hid (Ext w wr)) (fun i _ => n1 - (intOf i).toNat)
  case atStart => exact ⟨0, by omega, rfl, hide (Ext.refl _)⟩
  case round =>
    obtain ⟨k, hk, rfl, HX⟩ := hrel
    by_cases hlt : k < n1
    · obtain ⟨b, off, rfl, _⟩ := H1.out.addr (by omega)
      obtain ⟨b2, off2, rfl, _⟩ := H2.out.addr (by omega)
      have a1 := (H1.out.ext HX.out).num hlt
      have a2 := (H2.out.ext HX.out).num hlt
      generalize l.getD k 0 = y at *
      have i1 : (k : Int) < (n1 : Int) := by omega
      have i0 : (0 : Int) ≤ (k : Int) := by omega
      go_wp2_with fail
      go_quiet (fail)
      go_wp2
      go_roundw
      case rel => exact ⟨k + 1, by omega, by go_num, below_drewN HX.out _⟩
      case measure => simp [intOf]; omega
    · have hkn : k = n1 := by omega
      clear hkn
      go_wp2
      go_ret
      exact ⟨rfl, HX.out⟩
end Go.Proofs.Ytajadgpkmommmaa
namespace Go.Proofs.Ytajadgpkmommmaa
open Go.RowKit

set_option maxHeartbeats 1000000 in
/-- Two slices that read as one list. -/
theorem spansEq_true {A1 A2 : Option Addr} {n1 c1 n2 c2 : Nat} {l : List (Int × Int)} {w : World} (h1 : At w 2 e2 A1 n1 c1 l) (h2 : At w 2 e2 A2 n2 c2 l) :
    Calls Try.prog 30 #[.slice A1 n1 c1, .slice A2 n2 c2] w fun e w' => e = .returned (.bool true) ∧ Ext w w' := by
  obtain rfl : n1 = n2 := h1.len.symm.trans h2.len
  have hb := h1.bound
  have H1 := hide h1; have H2 := hide h2
  clear h1 h2
  go_enter Try.func30, Try.ntmps30
  go_wp2_with fail
  go_loopw [13] (fun ri wr => ∃ k : Nat, k ≤ n1 ∧ ri = .int .i64 k ∧ Hid (Ext w wr)) (fun i _ => n1 - (intOf i).toNat)
  case atStart => exact ⟨0, by omega, rfl, hide (Ext.refl _)⟩
  case round =>
    obtain ⟨k, hk, rfl, HX⟩ := hrel
    by_cases hlt : k < n1
    · obtain ⟨b, off, rfl, _⟩ := H1.out.addr (by omega)
      obtain ⟨b2, off2, rfl, _⟩ := H2.out.addr (by omega)
      obtain ⟨a1, a2⟩ := (H1.out.ext HX.out).pair hlt
      obtain ⟨a3, a4⟩ := (H2.out.ext HX.out).pair hlt
      generalize (l.getD k (0, 0)).1 = y0 at *
      generalize (l.getD k (0, 0)).2 = y1 at *
      have i1 : (k : Int) < (n1 : Int) := by omega
      have i0 : (0 : Int) ≤ (k : Int) := by omega
      go_wp2_with fail
      go_quiet (fail)
      go_wp2
      go_roundw
      case rel => exact ⟨k + 1, by omega, by go_num, below_drewN HX.out _⟩
      case measure => simp [intOf]; omega
    · have hkn : k = n1 := by omega
      clear hkn
      go_wp2
      go_ret
      exact ⟨rfl, HX.out⟩

set_option maxRecDepth 100000 in
set_option maxHeartbeats 4000000 in
theorem same_any {a1 a2 a3 a4 b1 b2 b3 b4 : Option Addr} {n1 n2 n3 n4 m1 m2 m3 m4 k1 k2 k3 k4 l1 l2 l3 l4 : Nat} {bg en : Int} {X1 X2 X3 : List Int} {X4 : List (Int × Int)} {w : World}
    (h1 : At w 1 e64 a1 n1 m1 X1) (h2 : At w 1 e64 a2 n2 m2 X2) (h3 : At w 1 e64 a3 n3 m3 X3) (h4 : At w 2 e2 a4 n4 m4 X4) (g1 : At w 1 e64 b1 k1 l1 X1) (g2 : At w 1 e64 b2 k2 l2 X2) (g3 : At w 1 e64 b3 k3 l3 X3) (g4 : At w 2 e2 b4 k4 l4 X4) :
    Calls Try.prog 14 #[.agg #[.slice a1 n1 m1, .slice a2 n2 m2, .slice a3 n3 m3, .int .i64 bg, .slice a4 n4 m4, .int .i64 en], .agg #[.slice b1 k1 l1, .slice b2 k2 l2, .slice b3 k3 l3, .int .i64 bg, .slice b4 k4 l4, .int .i64 en]] w fun e w' => e = .returned (.bool true) ∧ Ext w w' := by
  have HX : Hid (Ext w ((w.alloc (.cells #[.slice a1 n1 m1, .slice a2 n2 m2, .slice a3 n3 m3, .int .i64 bg, .slice a4 n4 m4, .int .i64 en] 33)).alloc (.cells #[.slice b1 k1 l1, .slice b2 k2 l2, .slice b3 k3 l3, .int .i64 bg, .slice b4 k4 l4, .int .i64 en] 33))) := hide (ext_alloc (Ext.alloc _ _) _)
  have B0 := hide ((Blk.new w 33 #[.slice a1 n1 m1, .slice a2 n2 m2, .slice a3 n3 m3, .int .i64 bg, .slice a4 n4 m4, .int .i64 en]).alloc (.cells #[.slice b1 k1 l1, .slice b2 k2 l2, .slice b3 k3 l3, .int .i64 bg, .slice b4 k4 l4, .int .i64 en] 33))
  have b1' := Blk.new (w.alloc (.cells #[.slice a1 n1 m1, .slice a2 n2 m2, .slice a3 n3 m3, .int .i64 bg, .slice a4 n4 m4, .int .i64 en] 33)) 33 #[.slice b1 k1 l1, .slice b2 k2 l2, .slice b3 k3 l3, .int .i64 bg, .slice b4 k4 l4, .int .i64 en]
  rw [World.size_alloc] at b1'
  have B1 := hide b1'
  have Q1 := hide (fun (W : World) (hW : Ext w W) => intsEq_true (h1.ext hW) (g1.ext hW))
  have Q2 := hide (fun (W : World) (hW : Ext w W) => intsEq_true (h2.ext hW) (g2.ext hW))
  have Q3 := hide (fun (W : World) (hW : Ext w W) => intsEq_true (h3.ext hW) (g3.ext hW))
  have Q4 := hide (fun (W : World) (hW : Ext w W) => spansEq_true (h4.ext hW) (g4.ext hW))
  clear h1 h2 h3 h4 g1 g2 g3 g4 b1'
  have E0 := hide (Ext.refl ((w.alloc (.cells #[.slice a1 n1 m1, .slice a2 n2 m2, .slice a3 n3 m3, .int .i64 bg, .slice a4 n4 m4, .int .i64 en] 33)).alloc (.cells #[.slice b1 k1 l1, .slice b2 k2 l2, .slice b3 k3 l3, .int .i64 bg, .slice b4 k4 l4, .int .i64 en] 33)))
  have c0 := B0.out.cell 0
  have d0 := B1.out.cell 0
  go_enter Try.func14, Try.ntmps14
  go_wp2_with fail
  refine (Q1.out _ (Ext.trans HX.out E0.out)).mono ?_
  rintro e w1 ⟨rfl, e1⟩
  have E1 := hide (Ext.trans E0.out e1)
  clear e1 c0 d0
  have c0 := (B0.out.ext E1.out).cell 1
  have d0 := (B1.out.ext E1.out).cell 1
  go_wp2_with fail
  refine (Q2.out _ (Ext.trans HX.out E1.out)).mono ?_
  rintro e w2 ⟨rfl, e2⟩
  have E2 := hide (Ext.trans E1.out e2)
  clear e2 c0 d0
  have c0 := (B0.out.ext E2.out).cell 2
  have d0 := (B1.out.ext E2.out).cell 2
  go_wp2_with fail
  refine (Q3.out _ (Ext.trans HX.out E2.out)).mono ?_
  rintro e w3 ⟨rfl, e3⟩
  have E3 := hide (Ext.trans E2.out e3)
  clear e3 c0 d0
  have c0 := (B0.out.ext E3.out).cell 3
  have d0 := (B1.out.ext E3.out).cell 3
  have c4 := (B0.out.ext E3.out).cell 4
  have d4 := (B1.out.ext E3.out).cell 4
  go_wp2_with fail
  refine (Q4.out _ (Ext.trans HX.out E3.out)).mono ?_
  rintro e w4 ⟨rfl, e4⟩
  have E4 := hide (Ext.trans E3.out e4)
  clear e4
  have c5 := (B0.out.ext E4.out).cell 5
  have d5 := (B1.out.ext E4.out).cell 5
  go_wp2_with fail
  go_ret
  exact ⟨rfl, Ext.trans HX.out E4.out⟩
end Go.Proofs.Ytajadgpkmommmaa
namespace Go.Proofs.Ytajadgpkmommmaa
open Go.RowKit

theorem awake_any (w : World) : Calls Try.prog 8 #[] w fun e w' => e = .returned (.bool true) ∧ Ext w w' := by
  have hF : cameF [(0, 3)] 1 3 = 0 := by decide
  have hV : cameV [(0, 3)] 1 3 = 6 := by decide
  have HC := hide (fun (W : World) => keyCame_any (At.pair1 W 0 3 61) 1 3)
  rw [hF, hV] at HC
  clear hF hV
  go_enter Try.func8, Try.ntmps8
  go_wp2_with fail
  refine (HC.out _).mono ?_
  rintro e w1 ⟨rfl, e1⟩
  have E1 := hide e1
  clear e1
  go_wp2
  go_ret
  exact ⟨rfl, Ext.trans (Ext.alloc _ _) E1.out⟩

end Go.Proofs.Ytajadgpkmommmaa
