/- Walk: sameFragments of fragments told twice. Conditions as stated. -/
import Derived.Test.YtgnmnhlhiiehfaaFraR
import Derived.Test.YtgnmnhlhiiehfaaSmpB
import Derived.Test.YtgnmnhlhiiehfaaSamB
namespace Go.Proofs.Ytgnmnhlhiiehfaa
open Go.RowKit
set_option linter.unusedVariables false in
set_option maxRecDepth 100000 in
set_option maxHeartbeats 8000000 in
theorem sameFrag_true {A1 A2 : Option Addr} {n1 n2 c1 c2 : Nat} {G1 G2 : Nat → Prop} {L : List (Int × List Smp)} {w : World} (h1 : FrsAt w G1 A1 n1 c1 L) (h2 : FrsAt w G2 A2 n2 c2 L) :
    Calls Try.prog 28 #[.slice A1 n1 c1, .slice A2 n2 c2] w fun e w' => e = .returned (.bool true) ∧ Ext w w' := by
  obtain ⟨ys, ha1, _, hy1, hh1⟩ := h1
  obtain ⟨zs, ha2, _, hz1, hh2⟩ := h2
  have e1 := ha1.len
  have e2 := ha2.len
  obtain rfl : n1 = n2 := by omega
  have HLL : Hid (L.length = n1) := hide (by omega)
  have hb := ha1.bound
  have HA1 := hide ha1
  have HA2 := hide ha2
  have HE1 : Hid (∀ i, i < n1 → FrOk w G1 (ys.getD i default) (L.getD i (0, []))) := hide (fun i hi => by
    have hi1 : i < ys.length := by omega
    have hi2 : i < L.length := by omega
    rw [List.getD_eq_getElem?_getD, List.getD_eq_getElem?_getD, List.getElem?_eq_getElem hi1, List.getElem?_eq_getElem hi2]
    exact hh1 i _ _ (List.getElem?_eq_getElem hi1) (List.getElem?_eq_getElem hi2))
  have HE2 : Hid (∀ i, i < n1 → FrOk w G2 (zs.getD i default) (L.getD i (0, []))) := hide (fun i hi => by
    have hi1 : i < zs.length := by omega
    have hi2 : i < L.length := by omega
    rw [List.getD_eq_getElem?_getD, List.getD_eq_getElem?_getD, List.getElem?_eq_getElem hi1, List.getElem?_eq_getElem hi2]
    exact hh2 i _ _ (List.getElem?_eq_getElem hi1) (List.getElem?_eq_getElem hi2))
  clear ha1 ha2 hy1 hz1 hh1 hh2 e1 e2
  go_enter Try.func28, Try.ntmps28
  go_wp2_with fail
  go_loopw [5] (fun ri wr => ∃ k : Nat, k ≤ n1 ∧ ri = .int .i64 k ∧ Hid (Ext w wr)) (fun ri _ => n1 - (intOf ri).toNat)
  case atStart => exact ⟨0, by omega, rfl, hide (Ext.refl _)⟩
  case round =>
    obtain ⟨k, hk, rfl, HX⟩ := hrel
    by_cases hlt : k < n1
    · obtain ⟨b1, o1, rfl, _⟩ := HA1.out.addr (by omega)
      obtain ⟨b2, o2, rfl, _⟩ := HA2.out.addr (by omega)
      have hat1 := HA1.out.ext HX.out
      have hat2 := HA2.out.ext HX.out
      obtain ⟨p1, s1, _⟩ := HE1.out k hlt
      obtain ⟨p2, s2, _⟩ := HE2.out k hlt
      have a0 := hat1.cellK hlt default 0 _ rfl
      have a1 := hat1.cellK hlt default 1 _ rfl
      have d0 := hat2.cellK hlt default 0 _ rfl
      have d1 := hat2.cellK hlt default 1 _ rfl
      rw [Nat.add_zero, p1] at a0
      rw [Nat.add_zero, p2] at d0
      generalize (L.getD k (0, [])).1 = q at *
      generalize (L.getD k (0, [])).2 = xs at *
      generalize (ys.getD k default).sA = yA at *
      generalize (ys.getD k default).sn = yn at *
      generalize (ys.getD k default).sc = yc at *
      generalize (zs.getD k default).sA = zA at *
      generalize (zs.getD k default).sn = zn at *
      generalize (zs.getD k default).sc = zc at *
      have i1 : (k : Int) < (n1 : Int) := by omega
      have i0 : (0 : Int) ≤ (k : Int) := by omega
      have i8 : IntKind.i64.wrap ((k : Int) + 1) = (k : Int) + 1 := by rw [IntKind.wrap_i64]; omega
      have g2 : (q != q) = false := by simp
      have HSE := hide (fun (W : World) (hW : Ext wr W) => smpEq_true (s1.ext (Ext.trans HX.out hW)) (s2.ext (Ext.trans HX.out hW)))
      have EX := Ext.drew wr
      clear hat1 hat2 p1 p2 s1 s2
      go_wp2_with fail
      go_region_held3 (fun w' => w'.cell? ⟨b1, o1 + k * 2, none⟩ = some (.int .i64 q) ∧ w'.cell? ⟨b2, o2 + k * 2, none⟩ = some (.int .i64 q) ∧ w'.cell? ⟨b1, o1 + k * 2 + 1, none⟩ = some (.slice yA yn yc) ∧ w'.cell? ⟨b2, o2 + k * 2 + 1, none⟩ = some (.slice zA zn zc)) (first | go_keep | exact ⟨EX.cell a0, EX.cell d0, EX.cell a1, EX.cell d1⟩) (((go_at_call 15; with_reducible refine (HSE.out _ EX).mono ?_); rintro e w2 ⟨rfl, e2⟩; have EX := Ext.trans EX e2))
      have E2 := hide (Ext.trans HX.out EX)
      clear EX a0 a1 d0 d1
      go_wp2_with fail
      exact ⟨⟨k + 1, by omega, by go_num, E2⟩, by simp [intOf]; omega⟩
    · obtain rfl : n1 = k := by omega
      have i1 : ¬ (n1 : Int) < (n1 : Int) := by omega
      go_wp2_with fail
      go_ret
      exact ⟨rfl, HX.out⟩
end Go.Proofs.Ytgnmnhlhiiehfaa
