/- Walk: PlaysAt. Conditions as stated. -/
import Derived.Test.YtajadgpkmommmaaKpbPZ
import Derived.Test.YtajadgpkmommmaaOut
import Derived.Test.YtajadgpkmommmaaPairs
import Derived.Test.YtajadgpkmommmaaTw
namespace Go.Proofs.Ytajadgpkmommmaa
open Go.RowKit
set_option linter.unusedVariables false in
set_option maxRecDepth 100000 in
set_option maxHeartbeats 4000000 in
theorem playsAt_any {cA aA rA tA : Option Addr} {cn cc an ac rn rc tn tc : Nat} {sts : List (Int × Int)} {beg en t : Int} {w : World} (a4 : At w 2 e2 tA tn tc sts) :
    Calls Try.prog 10 #[.agg #[.slice cA cn cc, .slice aA an ac, .slice rA rn rc, .int .i64 beg, .slice tA tn tc, .int .i64 en], .int .i64 t] w fun e w' => e = .returned (.bool (plyB beg en sts t)) ∧ Ext w w' := by
  have hb := a4.bound
  have hl := a4.len
  have A4 := hide a4
  have HX : Hid (Ext w (w.alloc (.cells #[.slice cA cn cc, .slice aA an ac, .slice rA rn rc, .int .i64 beg, .slice tA tn tc, .int .i64 en] 33))) := hide (Ext.alloc _ _)
  have B0 := hide (Blk.new w 33 #[.slice cA cn cc, .slice aA an ac, .slice rA rn rc, .int .i64 beg, .slice tA tn tc, .int .i64 en])
  by_cases h1 : t < beg
  · have HV : Hid (plyB beg en sts t = false) := hide (by unfold plyB; simp [h1])
    clear hl a4
    go_enter Try.func10, Try.ntmps10
    go_wp2_with fail
    go_ret
    exact ⟨by rw [HV.out]; rfl, HX.out⟩
  by_cases h2 : en ≤ t
  · have HV : Hid (plyB beg en sts t = false) := hide (by unfold plyB; simp [h2])
    clear hl a4
    go_enter Try.func10, Try.ntmps10
    go_wp2_with fail
    go_ret
    exact ⟨by rw [HV.out]; rfl, HX.out⟩
  have HN : Hid (∀ j, j < tn → (sts.getD j (0, 0)).1 ≤ t → t < (sts.getD j (0, 0)).2 → plyB beg en sts t = false) := hide (fun j hj g1 g2 => by
    unfold plyB
    rw [show (sts.any fun x => decide (x.1 ≤ t ∧ t < x.2)) = true from List.any_eq_true.2 ⟨sts.getD j (0, 0), by simp only [List.getD_eq_getElem?_getD]; rw [List.getElem?_eq_getElem (by omega)]; exact List.getElem_mem _, by simp only [decide_eq_true_eq]; exact ⟨g1, g2⟩⟩]
    simp)
  have HY : Hid ((∀ j, j < tn → ¬ ((sts.getD j (0, 0)).1 ≤ t ∧ t < (sts.getD j (0, 0)).2)) → plyB beg en sts t = true) := hide (fun hh => by
    unfold plyB
    rw [show (sts.any fun x => decide (x.1 ≤ t ∧ t < x.2)) = false from List.any_eq_false.2 fun x hx => by
      obtain ⟨i, hi, rfl⟩ := List.getElem_of_mem hx
      have := hh i (by omega)
      simp only [List.getD_eq_getElem?_getD] at this
      rw [List.getElem?_eq_getElem hi] at this
      simpa using this]
    simp [h1, h2])
  have h1' : beg ≤ t := by omega
  have h2' : t < en := by omega
  clear hl a4 h1 h2
  go_enter Try.func10, Try.ntmps10
  go_wp2_with fail
  go_loopw [20] (fun ri wr => ∃ j : Nat, j ≤ tn ∧ ri = .int .i64 j ∧ Hid (∀ i, i < j → ¬ ((sts.getD i (0, 0)).1 ≤ t ∧ t < (sts.getD i (0, 0)).2)) ∧ Hid (Ext w wr)) (fun ri _ => tn - (intOf ri).toNat)
  case atStart => exact ⟨0, by omega, rfl, hide (fun i hi => absurd hi (Nat.not_lt_zero i)), HX⟩
  case round =>
    obtain ⟨j, hj, rfl, HA, HW⟩ := hrel
    by_cases hlt : j < tn
    · obtain ⟨bt, ot, rfl, _⟩ := A4.out.addr (by omega)
      obtain ⟨c1, c2⟩ := (A4.out.ext HW.out).pair hlt
      have hnj := HN.out j hlt
      have haj : ¬ ((sts.getD j (0, 0)).1 ≤ t ∧ t < (sts.getD j (0, 0)).2) → Hid (∀ i, i < j + 1 → ¬ ((sts.getD i (0, 0)).1 ≤ t ∧ t < (sts.getD i (0, 0)).2)) := fun hc => hide (fun i hi => by
        rcases Nat.lt_succ_iff_lt_or_eq.1 hi with h | h
        · exact HA.out i h
        · rw [h]; exact hc)
      generalize (sts.getD j (0, 0)).1 = t1 at *
      generalize (sts.getD j (0, 0)).2 = t2 at *
      have i1 : (j : Int) < (tn : Int) := by omega
      by_cases g1 : t1 ≤ t
      · by_cases g2 : t < t2
        · have HV := hide (hnj g1 g2)
          clear hnj haj
          go_wp2_with fail
          go_ret
          exact ⟨by rw [HV.out]; rfl, Ext.trans HW.out (by repeat' (first | (with_reducible exact Below.refl _ _) | (with_reducible assumption) | (with_reducible refine below_drewN ?_ _) | (with_reducible refine Below.drew ?_) | (with_reducible refine ext_alloc ?_ _) | (with_reducible refine Below.setCell ?_ ?_ _) | go_size))⟩
        · have HA2 := haj (fun hc => g2 hc.2)
          clear hnj haj
          go_wp2_with fail
          exact ⟨⟨j + 1, by omega, by go_num, HA2, hide (Ext.trans HW.out (by repeat' (first | (with_reducible exact Below.refl _ _) | (with_reducible assumption) | (with_reducible refine below_drewN ?_ _) | (with_reducible refine Below.drew ?_) | (with_reducible refine ext_alloc ?_ _) | (with_reducible refine Below.setCell ?_ ?_ _) | go_size)))⟩, by simp [intOf]; omega⟩
      · have HA2 := haj (fun hc => g1 hc.1)
        clear hnj haj
        go_wp2_with fail
        exact ⟨⟨j + 1, by omega, by go_num, HA2, hide (Ext.trans HW.out (by repeat' (first | (with_reducible exact Below.refl _ _) | (with_reducible assumption) | (with_reducible refine below_drewN ?_ _) | (with_reducible refine Below.drew ?_) | (with_reducible refine ext_alloc ?_ _) | (with_reducible refine Below.setCell ?_ ?_ _) | go_size)))⟩, by simp [intOf]; omega⟩
    obtain rfl : tn = j := by omega
    have i1 : ¬ (tn : Int) < (tn : Int) := by omega
    have HV := hide (HY.out (fun j hj => HA.out j hj))
    clear HY HN
    go_wp2_with fail
    go_ret
    exact ⟨by rw [HV.out]; rfl, HW.out⟩
end Go.Proofs.Ytajadgpkmommmaa
