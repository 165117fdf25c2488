/- Walk: choicesFault. Conditions as stated. -/
import Derived.Test.YtajadgpkmommmaaFilmD
import Derived.Test.YtajadgpkmommmaaFilmP
import Derived.Test.YtajadgpkmommmaaRunA
namespace Go.Proofs.Ytajadgpkmommmaa
open Go.RowKit

/-- The fault of choices. -/
def chsF (n m : Int) (C : List Int) : Int := if (C.length : Int) ≠ n then 3 else if rngB 0 (m - 1) C = true then 1 else 0
theorem rngB_cons (lo hi y : Int) (r : List Int) : rngB lo hi (y :: r) = (decide (y < lo ∨ hi < y) || rngB lo hi r) := rfl
section
variable {lA : Option Addr} {ln lc : Nat} {sA : Option Addr} {sn sc : Nat} {qA : Option Addr} {qn qc : Nat} {w : World}
set_option maxRecDepth 100000 in
set_option maxHeartbeats 4000000 in
theorem choicesFault_any {cA : Option Addr} {cn cc : Nat} {C : List Int} (hsn : sn ≤ 1000) (hC : At w 1 e64 cA cn cc C) :
    Calls Try.prog 27 #[shV lA ln lc sA sn sc qA qn qc, .slice cA cn cc] w fun e w' => e = .returned (.int .i64 (chsF ln sn C)) ∧ Ext w w' := by
  have hl := hC.len
  have hb := hC.bound
  have H := hide hC
  have hv : chsF ln sn C = if (cn : Int) ≠ (ln : Int) then 3 else if rngB 0 ((sn : Int) - 1) C = true then 1 else 0 := by unfold chsF; rw [hl]
  have HL := hide hl
  clear hC hl
  generalize chsF ln sn C = v at *
  have HY : Hid (¬ cn = ln → v = 3) := hide (fun h => by rw [hv, if_pos (by omega)])
  have HN : Hid (cn = ln → rngB 0 ((sn : Int) - 1) C = true → v = 1) := hide (fun h h2 => by rw [hv, if_neg (by omega), if_pos h2])
  have HM : Hid (cn = ln → rngB 0 ((sn : Int) - 1) C = false → v = 0) := hide (fun h h2 => by rw [hv, if_neg (by omega), if_neg (by simp [h2])])
  clear hv
  have v1 : IntKind.i64.wrap ((sn : Int) - 1) = (sn : Int) - 1 := by rw [IntKind.wrap_i64]; omega
  by_cases h1 : cn = ln
  rotate_left
  · have i1 : ((cn : Int) != (ln : Int)) = true := by simp; omega
    have HV := hide (HY.out h1)
    clear h1 HY HN HM
    go_enter Try.func27, Try.ntmps27
    go_wp2
    go_ret
    exact ⟨ret_int HV.out.symm, (by repeat' (first | (with_reducible exact Below.refl _ _) | (with_reducible assumption) | (with_reducible refine below_drewN ?_ _) | (with_reducible refine Below.drew ?_) | (with_reducible refine ext_alloc ?_ _) | (with_reducible refine Below.setCell ?_ ?_ _) | go_size))⟩
  have i1 : ((cn : Int) != (ln : Int)) = false := by simp [h1]
  have HN2 := hide (HN.out h1)
  have HM2 := hide (HM.out h1)
  clear h1 HY HN HM
  go_enter Try.func27, Try.ntmps27
  go_wp2_with fail
  go_loopw [15] (fun ri wr => ∃ j : Nat, j ≤ cn ∧ ri = .int .i64 j ∧ Hid (rngB 0 ((sn : Int) - 1) (C.drop j) = rngB 0 ((sn : Int) - 1) C) ∧ Hid (Ext (w.alloc (.cells #[.slice lA ln lc, .slice sA sn sc, .slice qA qn qc] 25)) wr)) (fun ri _ => cn - (intOf ri).toNat)
  case atStart => exact ⟨0, by omega, rfl, hide (by simp), hide (Ext.refl _)⟩
  case round =>
    obtain ⟨j, hj, rfl, HS, HX⟩ := hrel
    have EW := hide (Ext.trans (Ext.alloc w (.cells #[.slice lA ln lc, .slice sA sn sc, .slice qA qn qc] 25)) HX.out)
    have c1 : wr.cell? ⟨w.heap.size, 1, none⟩ = some (.slice sA sn sc) := HX.out.cell ((Blk.new w _ _).cell 1)
    by_cases hlt : j < cn
    · obtain ⟨b, off, rfl, _⟩ := H.out.addr (by omega)
      have a1 := (H.out.ext EW.out).num hlt
      have hs := HS.out
      rw [drop_consA C j 0 (by have := HL.out; omega), rngB_cons] at hs
      have k1 : (j : Int) < (cn : Int) := by omega
      have k0 : (0 : Int) ≤ (j : Int) := by omega
      generalize C.getD j 0 = y at *
      by_cases hy : y < 0 ∨ (sn : Int) - 1 < y
      · have HV := hide (HN2.out (by rw [← hs, decide_eq_true hy]; rfl))
        have HO := hide (fun (W : World) => out_yes hy W)
        clear hs hy HS HN2 HM2
        go_wp2_with fail
        refine (HO.out _).mono ?_
        rintro e w2 ⟨rfl, rfl⟩
        go_wp2
        go_ret
        exact ⟨ret_int HV.out.symm, EW.out⟩
      · have HS2 : Hid (rngB 0 ((sn : Int) - 1) (C.drop (j + 1)) = rngB 0 ((sn : Int) - 1) C) := hide (by rw [← hs, decide_eq_false hy]; rfl)
        have HO := hide (fun (W : World) => out_no (n := y) (lo := 0) (hi := (sn : Int) - 1) (by omega) W)
        clear hs hy HS
        go_wp2_with fail
        refine (HO.out _).mono ?_
        rintro e w2 ⟨rfl, rfl⟩
        go_wp2_with fail
        go_roundw
        case rel => exact ⟨j + 1, by omega, by go_num, HS2, HX⟩
        case measure => simp [intOf]; omega
    · have hjn : j = cn := by omega
      have HV := hide (HM2.out (by rw [← HS.out, List.drop_of_length_le (by have := HL.out; omega)]; rfl))
      clear hjn HS c1
      go_wp2
      go_ret
      exact ⟨ret_int HV.out.symm, EW.out⟩
end
end Go.Proofs.Ytajadgpkmommmaa
