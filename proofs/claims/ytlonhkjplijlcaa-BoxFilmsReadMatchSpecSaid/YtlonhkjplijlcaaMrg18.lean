/- Walks: samplesOf, counted, checkChunks (reference). Conditions as stated. -/
import Derived.Test.YtlonhkjplijlcaaMrg07
import Derived.Test.YtlonhkjplijlcaaMrg06
namespace Go.Proofs.Ytlonhkjplijlcaa
open Go.RowKit
set_option linter.unusedVariables false in
set_option maxRecDepth 100000 in
set_option maxHeartbeats 4000000 in
theorem samplesOf_any {A : Option Addr} {n c : Nat} {l : List (Int × Int)} {ch : Int} {w : World} (h : At w 2 e2 A n c l) :
    Calls Try.prog 65 #[.slice A n c, .int .i64 ch] w fun e w' => e = .returned (.int .i64 (smO l ch)) ∧ w = w' := by
  have hb := h.bound
  have H := hide h
  have HL := hide h.len
  clear h
  go_enter Try.func65, Try.ntmps65
  go_wp2_with fail
  go_loopw [5, 6] (fun rs ri wr => ∃ k : Nat, k ≤ n ∧ ri = .int .i64 k ∧ rs = .int .i64 (smOK l ch k) ∧ w = wr) (fun _ ri _ => n - (intOf ri).toNat)
  case atStart => exact ⟨0, by omega, rfl, rfl, rfl⟩
  case round =>
    obtain ⟨k, hk, rfl, rfl, hw⟩ := hrel
    subst hw
    by_cases hlt : k < n
    · obtain ⟨b, off, rfl, _⟩ := H.out.addr (by omega)
      obtain ⟨a0, a1⟩ := H.out.pair hlt
      have hs : smOK l ch (k + 1) = if (l.getD k (0, 0)).1 ≤ ch then (l.getD k (0, 0)).2 else smOK l ch k := rfl
      generalize (l.getD k (0, 0)).1 = x at *
      generalize (l.getD k (0, 0)).2 = y at *
      have i1 : (k : Int) < (n : Int) := by omega
      have i0 : (0 : Int) ≤ (k : Int) := by omega
      have i8 : IntKind.i64.wrap ((k : Int) + 1) = (k : Int) + 1 := by rw [IntKind.wrap_i64]; omega
      by_cases hx : x ≤ ch
      · rw [if_pos hx] at hs
        have HS := hide hs
        clear hs
        go_wp2_with fail
        exact ⟨⟨k + 1, by omega, by go_num, by rw [HS.out], by first | rfl | trivial⟩, by simp [intOf]; omega⟩
      · rw [if_neg hx] at hs
        have HS := hide hs
        clear hs
        go_wp2_with fail
        exact ⟨⟨k + 1, by omega, by go_num, by rw [HS.out], by first | rfl | trivial⟩, by simp [intOf]; omega⟩
    · obtain rfl : k = n := by omega
      have HE : Hid (smO l ch = smOK l ch k) := hide (by unfold smO; rw [HL.out])
      clear hlt
      go_wp2_with fail
      go_ret
      exact ⟨ret_int HE.out.symm, rfl⟩
/-- The counts of runs that are right. -/
def cntV (least : Int) (l : List (Int × Int)) : Int := if runsF least l = 0 then cntA l else 0
set_option linter.unusedVariables false in
set_option maxRecDepth 100000 in
set_option maxHeartbeats 4000000 in
theorem refCounted_any {A : Option Addr} {n c : Nat} {l : List (Int × Int)} {least : Int} {w : World} (h : At w 2 e2 A n c l) (hn : n ≤ 17592186044416) :
    Calls Try.prog 92 #[.slice A n c, .int .i64 least] w fun e w' => e = .returned (.tuple #[.int .i64 (cntV least l), .int .i64 (runsF least l)]) ∧ w = w' := by
  have hb := h.bound
  have H := hide h
  have HL := hide h.len
  have HBAD := hide (fun (k : Nat) (hk : k < n) (ha : ∀ j, j < k → rnEl least l j = 0) (hn : rnEl least l k ≠ 0) => (firstF_at ha hn (n := l.length) (by rw [h.len]; exact hk) : firstF (rnEl least l) l.length = rnEl least l k))
  have HOK := hide (fun (ha : ∀ j, j < n → rnEl least l j = 0) => (firstF_zero (fun j hj => ha j (by rw [← h.len]; exact hj)) : firstF (rnEl least l) l.length = 0))
  clear h
  go_enter Try.func92, Try.ntmps92
  go_wp2_with fail
  go_loopw [6, 7] (fun rs ri wr => ∃ k : Nat, k ≤ n ∧ ri = .int .i64 k ∧ rs = .int .i64 (cntI l k) ∧ Hid (∀ j, j < k → rnEl least l j = 0) ∧ Hid (0 ≤ cntI l k ∧ cntI l k ≤ 5000 * (k : Int)) ∧ w = wr) (fun _ ri _ => n - (intOf ri).toNat)
  case atStart => exact ⟨0, by omega, rfl, rfl, hide (fun j hj => by omega), hide (by simp [cntI]), rfl⟩
  case round =>
    obtain ⟨k, hk, rfl, rfl, HA, HBD, hw⟩ := hrel
    subst hw
    by_cases hlt : k < n
    · obtain ⟨b, off, rfl, _⟩ := H.out.addr (by omega)
      obtain ⟨a0, a1⟩ := H.out.pair hlt
      have hel : rnEl least l k = if badR least (l.getD k (0, 0)) = true then 1 else 0 := rfl
      have hbr : badR least (l.getD k (0, 0)) = (decide ((l.getD k (0, 0)).1 < 1 ∨ 5000 < (l.getD k (0, 0)).1) || decide ((l.getD k (0, 0)).2 < least ∨ 1000000000 < (l.getD k (0, 0)).2)) := rfl
      have HS : Hid (rnEl least l k = 0 → ∀ j, j < k + 1 → rnEl least l j = 0) := hide (fun h0 j hj => by
        rcases Nat.lt_succ_iff_lt_or_eq.1 hj with h | h
        · exact HA.out j h
        · rw [h]; exact h0)
      have HB := hide (HBAD.out k hlt HA.out)
      have hcs : cntI l (k + 1) = cntI l k + (l.getD k (0, 0)).1 := rfl
      have hc0 := HBD.out
      obtain ⟨C1, hC1⟩ : ∃ C1, C1 = cntI l (k + 1) := ⟨_, rfl⟩
      rw [← hC1] at hcs
      have HC1 := hide hC1
      clear hC1 HBD
      generalize cntI l k = C0 at *
      generalize (l.getD k (0, 0)).1 = x at *
      generalize (l.getD k (0, 0)).2 = y at *
      have i1 : (k : Int) < (n : Int) := by omega
      have i0 : (0 : Int) ≤ (k : Int) := by omega
      have i8 : IntKind.i64.wrap ((k : Int) + 1) = (k : Int) + 1 := by rw [IntKind.wrap_i64]; omega
      by_cases hx : x < 1 ∨ 5000 < x
      · have HE : Hid (runsF least l = 1) := hide (by
          have h1 : rnEl least l k = 1 := by rw [hel, hbr, if_pos]; simp [hx]
          have := HB.out (by omega)
          unfold runsF; omega)
        have HV : Hid (cntV least l = 0) := hide (by unfold cntV; rw [if_neg (by rw [HE.out]; omega)])
        clear hel hbr hcs hc0
        go_wp2_with ((go_at_call 22; with_reducible refine (within_no hx _).mono ?_); rintro e w' ⟨rfl, rfl⟩)
        go_ret2
        rw [HE.out, HV.out]
        exact ⟨rfl, rfl⟩
      · have hx2 : 1 ≤ x ∧ x ≤ 5000 := by omega
        by_cases hy : y < least ∨ 1000000000 < y
        · have HE : Hid (runsF least l = 1) := hide (by
            have h1 : rnEl least l k = 1 := by rw [hel, hbr, if_pos]; simp [hy]
            have := HB.out (by omega)
            unfold runsF; omega)
          have HV : Hid (cntV least l = 0) := hide (by unfold cntV; rw [if_neg (by rw [HE.out]; omega)])
          clear hel hbr hx hcs hc0
          go_wp2_with (first | ((go_at_call 22; with_reducible refine (within_yes hx2 _).mono ?_); rintro e w' ⟨rfl, rfl⟩) | ((go_at_call 22; with_reducible refine (within_no hy _).mono ?_); rintro e w' ⟨rfl, rfl⟩))
          go_ret2
          rw [HE.out, HV.out]
          exact ⟨rfl, rfl⟩
        · have hy2 : least ≤ y ∧ y ≤ 1000000000 := by omega
          have HE : Hid (rnEl least l k = 0) := hide (by rw [hel, hbr, if_neg]; simp [hx, hy])
          have u1 : IntKind.i64.wrap (C0 + x) = C1 := by rw [IntKind.wrap_i64]; omega
          have HCB : Hid (0 ≤ C1 ∧ C1 ≤ 5000 * ((k + 1 : Nat) : Int)) := hide (by omega)
          clear hel hbr hx hy hcs hc0
          go_wp2_with (first | ((go_at_call 22; with_reducible refine (within_yes hx2 _).mono ?_); rintro e w' ⟨rfl, rfl⟩) | ((go_at_call 22; with_reducible refine (within_yes hy2 _).mono ?_); rintro e w' ⟨rfl, rfl⟩))
          exact ⟨⟨k + 1, by omega, by go_num, by rw [HC1.out], hide (HS.out HE.out), hide (by rw [← HC1.out]; exact HCB.out), by first | rfl | trivial⟩, by simp [intOf]; omega⟩
    · obtain rfl : k = n := by omega
      have HE : Hid (runsF least l = 0 ∧ cntA l = cntI l k) := hide ⟨HOK.out HA.out, by unfold cntA; rw [HL.out]⟩
      have HV : Hid (cntV least l = cntI l k) := hide (by unfold cntV; rw [if_pos HE.out.1, HE.out.2])
      clear hlt HBD
      go_wp2_with fail
      go_ret2
      rw [HE.out.1, HV.out]
      exact ⟨rfl, rfl⟩
set_option linter.unusedVariables false in
set_option maxRecDepth 100000 in
set_option maxHeartbeats 8000000 in
theorem checkChunks_any {st : Int} {sA : Option Addr} {sn sc : Nat} {hA : Option Addr} {hn hc : Nat} {zA : Option Addr} {zn zc : Nat} {kA : Option Addr} {kn kc : Nat} {cA : Option Addr} {cn cc : Nat} {pA : Option Addr} {pn pc : Nat} {C : List (Int × Int)} {P : List Int} {n : Int} {w : World}
    (h : At w 2 e2 cA cn cc C) (hp : At w 1 e64 pA pn pc P) (hpn : pn ≤ 17592186044416) :
    Calls Try.prog 93 #[.agg #[.int .i64 st, .slice sA sn sc, .slice hA hn hc, .slice zA zn zc, .slice kA kn kc, .slice cA cn cc, .slice pA pn pc], .int .i64 n] w fun e w' => e = .returned (.int .i64 (chunksF n C P)) ∧ Ext w w' := by
  have hcb := h.bound
  have E0 := hide (Ext.alloc w (.cells #[.int .i64 st, .slice sA sn sc, .slice hA hn hc, .slice zA zn zc, .slice kA kn kc, .slice cA cn cc, .slice pA pn pc] 73))
  have X0 := hide (Blk.new w 73 #[.int .i64 st, .slice sA sn sc, .slice hA hn hc, .slice zA zn zc, .slice kA kn kc, .slice cA cn cc, .slice pA pn pc])
  have H := hide h
  have HP := hide hp
  have HL := hide h.len
  have HPL := hide hp.len
  have HCF : Hid (firstF (chEl C) C.length ≠ 0 → chunksF n C P = firstF (chEl C) C.length) := hide (fun h1 => by unfold chunksF; rw [if_pos h1])
  have HBAD := hide (fun (k : Nat) (hk : k < cn) (ha : ∀ j, j < k → chEl C j = 0) (hn : chEl C k ≠ 0) => (firstF_at ha hn (n := C.length) (by rw [h.len]; exact hk) : firstF (chEl C) C.length = chEl C k))
  have HOK := hide (fun (ha : ∀ j, j < cn → chEl C j = 0) => (firstF_zero (fun j hj => ha j (by rw [← h.len]; exact hj)) : firstF (chEl C) C.length = 0))
  have HPB := hide (fun (k : Nat) (hk : k < pn) (ha : ∀ j, j < k → plEl P j = 0) (hn : plEl P k ≠ 0) => (firstF_at ha hn (n := P.length) (by rw [hp.len]; exact hk) : firstF (plEl P) P.length = plEl P k))
  have HSO := hide (fun (ch : Int) (W : World) (hW : Ext w W) => samplesOf_any (ch := ch) (h.ext hW))
  clear h hp
  go_enter Try.func93, Try.ntmps93
  go_upto_region 1 with (fail)
  refine gen_wpC fun w0 h0 => ?_
  have F0 : Hid (Ext w w0) := hide (by rw [h0]; exact E0.out)
  have X1 : Hid (Blk w0 w.heap.size 73 #[.int .i64 st, .slice sA sn sc, .slice hA hn hc, .slice zA zn zc, .slice kA kn kc, .slice cA cn cc, .slice pA pn pc]) := hide (by rw [h0]; exact X0.out)
  clear h0 E0 X0
  go_wp2_with fail
  go_loopw [5] (fun ri wr => ∃ k : Nat, k ≤ cn ∧ ri = .int .i64 k ∧ Hid (∀ j, j < k → chEl C j = 0) ∧ Hid (Ext w0 wr)) (fun ri _ => cn - (intOf ri).toNat)
  case atStart => exact ⟨0, by omega, rfl, hide (fun j hj => by omega), hide (Ext.refl _)⟩
  case round =>
    obtain ⟨k, hk, rfl, HA, HX⟩ := hrel
    have HXW := hide (Ext.trans F0.out HX.out)
    have x5 : wr.cell? ⟨w.heap.size, 5, none⟩ = some (.slice cA cn cc) := (X1.out.ext HX.out).cell 5
    by_cases hlt : k < cn
    · obtain ⟨b, off, rfl, _⟩ := H.out.addr (by omega)
      obtain ⟨a0, a1⟩ := (H.out.ext HXW.out).pair hlt
      have hpr : 0 < k → wr.cell? ⟨b, off + (k - 1) * 2, none⟩ = some (.int .i64 (C.getD (k - 1) (0, 0)).1) := fun h0 => ((H.out.ext HXW.out).pair (k := k - 1) (by omega)).1
      have hel : chEl C k = if badC (C.getD k (0, 0)) = true then 1 else if ordC C k = true then 8 else 0 := rfl
      have hbr : badC (C.getD k (0, 0)) = (decide ((C.getD k (0, 0)).1 < 1 ∨ 5000 < (C.getD k (0, 0)).1) || decide ((C.getD k (0, 0)).2 < 1 ∨ 1000 < (C.getD k (0, 0)).2)) := rfl
      have hod : ordC C k = decide ((k = 0 ∧ (C.getD k (0, 0)).1 ≠ 1) ∨ (0 < k ∧ (C.getD k (0, 0)).1 ≤ (C.getD (k - 1) (0, 0)).1)) := rfl
      have HS : Hid (chEl C k = 0 → ∀ j, j < k + 1 → chEl C j = 0) := hide (fun h0 j hj => by
        rcases Nat.lt_succ_iff_lt_or_eq.1 hj with h | h
        · exact HA.out j h
        · rw [h]; exact h0)
      have HB : Hid (chEl C k ≠ 0 → chunksF n C P = chEl C k) := hide (fun hn => by
        have := HBAD.out k hlt HA.out hn
        rw [HCF.out (by omega), this])
      generalize (C.getD k (0, 0)).1 = x at *
      generalize (C.getD k (0, 0)).2 = y at *
      generalize (C.getD (k - 1) (0, 0)).1 = px at *
      have i1 : (k : Int) < (cn : Int) := by omega
      have i0 : (0 : Int) ≤ (k : Int) := by omega
      have i8 : IntKind.i64.wrap ((k : Int) + 1) = (k : Int) + 1 := by rw [IntKind.wrap_i64]; omega
      by_cases hx : x < 1 ∨ 5000 < x
      · have HE : Hid (chunksF n C P = 1) := hide (by
          have h1 : chEl C k = 1 := by rw [hel, hbr, if_pos]; simp [hx]
          have := HB.out (by omega)
          omega)
        clear hel hbr hod hpr
        go_wp2_with ((go_at_call 22; with_reducible refine (within_no hx _).mono ?_); rintro e w' ⟨rfl, rfl⟩)
        go_ret
        exact ⟨ret_int HE.out.symm, Ext.trans HXW.out (by repeat' (first | (with_reducible exact Below.refl _ _) | (with_reducible assumption) | (with_reducible refine below_drewN ?_ _) | (with_reducible refine Below.drew ?_) | (with_reducible refine ext_alloc ?_ _) | (with_reducible refine Below.setCell ?_ ?_ _) | go_size))⟩
      have hx2 : 1 ≤ x ∧ x ≤ 5000 := by omega
      by_cases hy : y < 1 ∨ 1000 < y
      · have HE : Hid (chunksF n C P = 1) := hide (by
          have h1 : chEl C k = 1 := by rw [hel, hbr, if_pos]; simp [hy]
          have := HB.out (by omega)
          omega)
        clear hel hbr hod hpr hx
        go_wp2_with (first | ((go_at_call 22; with_reducible refine (within_yes hx2 _).mono ?_); rintro e w' ⟨rfl, rfl⟩) | ((go_at_call 22; with_reducible refine (within_no hy _).mono ?_); rintro e w' ⟨rfl, rfl⟩))
        go_ret
        exact ⟨ret_int HE.out.symm, Ext.trans HXW.out (by repeat' (first | (with_reducible exact Below.refl _ _) | (with_reducible assumption) | (with_reducible refine below_drewN ?_ _) | (with_reducible refine Below.drew ?_) | (with_reducible refine ext_alloc ?_ _) | (with_reducible refine Below.setCell ?_ ?_ _) | go_size))⟩
      have hy2 : 1 ≤ y ∧ y ≤ 1000 := by omega
      have HE : Hid (chEl C k = if ordC C k = true then 8 else 0) := hide (by rw [hel, hbr, if_neg]; simp [hx, hy])
      have HOD := hide hod
      clear hel hbr hx hy hod
      go_upto_region 7 with (first | ((go_at_call 22; with_reducible refine (within_yes hx2 _).mono ?_); rintro e w' ⟨rfl, rfl⟩) | ((go_at_call 22; with_reducible refine (within_yes hy2 _).mono ?_); rintro e w' ⟨rfl, rfl⟩))
      refine gen_wpC fun w6 h6 => ?_
      have F6 : Hid (Ext wr w6) := hide (by rw [h6]; exact Ext.alloc _ _)
      have y0 : w6.cell? ⟨wr.heap.size, 0, none⟩ = some (.int .i64 x) := by rw [h6]; exact (Blk.new wr _ _).cell 0
      have y5 := F6.out.cell x5
      have ypr : 0 < k → w6.cell? ⟨b, off + (k - 1) * 2, none⟩ = some (.int .i64 px) := fun h0 => F6.out.cell (hpr h0)
      clear h6 x5 hpr a0 a1
      go_cut [55] (fun sv wx => sv = .bool (ordC C k) ∧ Hid (Ext wr wx))
      case first =>
        rcases Nat.eq_zero_or_pos k with hk0 | hk0
        · have d0 : ((k : Int) == 0) = true := by rw [beq_iff_eq]; omega
          have d1 : decide ((0 : Int) < (k : Int)) = false := by simp; omega
          have d2 : decide (0 < k) = false := by simp; omega
          have HO : Hid (ordC C k = (x != 1)) := hide (by rw [HOD.out, Bool.eq_iff_iff]; simp; omega)
          clear ypr
          by_cases hx1 : x = 1
          · have d3 : (x != 1) = false := by simp [hx1]
            go_region
            go_wp2_with fail
            go_meet
            exact ⟨by rw [HO.out, d3], hide (Ext.trans F6.out (by repeat' (first | (with_reducible exact Below.refl _ _) | (with_reducible assumption) | (with_reducible refine below_drewN ?_ _) | (with_reducible refine Below.drew ?_) | (with_reducible refine ext_alloc ?_ _) | (with_reducible refine Below.setCell ?_ ?_ _) | go_size)))⟩
          · have d3 : (x != 1) = true := by simp [hx1]
            go_region
            go_wp2_with fail
            go_meet
            exact ⟨by rw [HO.out, d3], hide (Ext.trans F6.out (by repeat' (first | (with_reducible exact Below.refl _ _) | (with_reducible assumption) | (with_reducible refine below_drewN ?_ _) | (with_reducible refine Below.drew ?_) | (with_reducible refine ext_alloc ?_ _) | (with_reducible refine Below.setCell ?_ ?_ _) | go_size)))⟩
        · have d0 : ((k : Int) == 0) = false := by rw [beq_eq_false_iff_ne]; omega
          have d1 : decide ((0 : Int) < (k : Int)) = true := by simp; omega
          have d2 : decide (0 < k) = true := by simp; omega
          have p0 := ypr hk0
          have i2 : IntKind.i64.wrap ((k : Int) - 1) = (k : Int) - 1 := by rw [IntKind.wrap_i64]; omega
          have i3 : ((k : Int) - 1).toNat = k - 1 := by omega
          have i4 : (0 : Int) ≤ (k : Int) - 1 := by omega
          have i5 : (k : Int) - 1 < (cn : Int) := by omega
          have i6 : (1 : Int) ≤ (k : Int) := by omega
          have i7 : (k : Int) ≤ (cn : Int) := by omega
          have HO : Hid (ordC C k = decide (x ≤ px)) := hide (by rw [HOD.out, Bool.eq_iff_iff]; simp; omega)
          clear ypr
          go_region
          go_wp2_with fail
          go_meet
          exact ⟨by rw [HO.out], hide (Ext.trans F6.out (by repeat' (first | (with_reducible exact Below.refl _ _) | (with_reducible assumption) | (with_reducible refine below_drewN ?_ _) | (with_reducible refine Below.drew ?_) | (with_reducible refine ext_alloc ?_ _) | (with_reducible refine Below.setCell ?_ ?_ _) | go_size)))⟩
      case rest =>
      obtain ⟨rfl, F7⟩ := hcut
      cases ho : ordC C k with
      | true =>
        have HE2 : Hid (chunksF n C P = 8) := hide (by
          have h1 := HE.out
          rw [ho, if_pos rfl] at h1
          have := HB.out (by omega)
          omega)
        go_wp2_with fail
        go_ret
        exact ⟨ret_int HE2.out.symm, Ext.trans HXW.out F7.out⟩
      | false =>
        have HE2 : Hid (chEl C k = 0) := hide (by rw [HE.out, ho, if_neg (by simp)])
        go_wp2_with fail
        exact ⟨⟨k + 1, by omega, by go_num, hide (HS.out HE2.out), hide (Ext.trans HX.out F7.out)⟩, by simp [intOf]; omega⟩
    · obtain rfl : k = cn := by omega
      have hz := HOK.out HA.out
      have HZ := hide hz
      have HAB := hide (fun (i : Nat) => allS_bd hz i)
      have hk5 : k ≤ 5000 := by have := ch_len hz; have := HL.out; omega
      have HSB := hide (fun (c : Int) => smO_bd hz c)
      have x6 : wr.cell? ⟨w.heap.size, 6, none⟩ = some (.slice pA pn pc) := (X1.out.ext HX.out).cell 6
      obtain ⟨w4, hw4⟩ : ∃ w4, w4 = wr := ⟨_, rfl⟩
      subst hw4
      have X4 := hide (X1.out.ext HX.out)
      clear hz hlt HBAD HOK HCF
      go_upto_region 11 with (fail)
      go_loopw [7, 8] (fun rs ri wr => ∃ i : Nat, i ≤ pn ∧ ri = .int .i64 i ∧ rs = .int .i64 (allS C i) ∧ w4 = wr) (fun _ ri _ => pn - (intOf ri).toNat)
      case atStart => exact ⟨0, by omega, rfl, rfl, rfl⟩
      case round =>
        obtain ⟨i, hi, rfl, rfl, hw⟩ := hrel
        subst hw
        by_cases hit : i < pn
        · have b0 := HAB.out i
          have b1 := HSB.out ((i : Int) + 1)
          obtain ⟨S1, hS1⟩ : ∃ S1, S1 = allS C (i + 1) := ⟨_, rfl⟩
          have hs : S1 = allS C i + smO C ((i : Int) + 1) := hS1
          have HS1 := hide hS1
          have HC2 := hide (HSO.out ((i : Int) + 1) _ HXW.out)
          clear hS1
          generalize smO C ((i : Int) + 1) = sm at *
          generalize allS C i = S0 at *
          have i1 : (i : Int) < (pn : Int) := by omega
          have i8 : IntKind.i64.wrap ((i : Int) + 1) = (i : Int) + 1 := by rw [IntKind.wrap_i64]; omega
          have u1 : IntKind.i64.wrap (S0 + sm) = S1 := by rw [IntKind.wrap_i64]; omega
          clear b0 b1 hs
          go_wp2_with fail
          with_reducible refine HC2.out.mono ?_
          rintro e w' ⟨rfl, rfl⟩
          go_wp2_with fail
          exact ⟨⟨i + 1, by omega, by go_num, by rw [HS1.out], by first | rfl | trivial⟩, by simp [intOf]; omega⟩
        · obtain rfl : i = pn := by omega
          have HD1 := hide (fun h1 => chunks_doc1 (n := n) (pl := P) HZ.out h1)
          have HD2 := hide (fun (j : Nat) (hj : j < k) h1 => chunks_doc2 (n := n) (pl := P) HZ.out (i := j) (by rw [HL.out]; exact hj) h1)
          have HD3 := hide (fun h1 h2 => chunks_doc3 (n := n) (pl := P) HZ.out h1 h2)
          rw [HPL.out, HL.out] at HD1 HD3
          rw [HPL.out] at HD2
          generalize allS C i = S at *
          go_upto_region 14 with (fail)
          go_cut [84] (fun sv wx => sv = .bool (decide (S ≠ n ∨ (0 < i ∧ k = 0))) ∧ w4 = wx)
          case first =>
            by_cases hsn : S = n
            · have d0 : (S != n) = false := by simp [hsn]
              by_cases hp0 : 0 < i
              · have d3 : decide ((0 : Int) < (i : Int)) = true := by simp; omega
                have d4 : decide (0 < i) = true := by simp; omega
                have HD : Hid (decide (S ≠ n ∨ (0 < i ∧ k = 0)) = ((k : Int) == 0)) := hide (by rw [Bool.eq_iff_iff, decide_eq_true_iff]; simp; omega)
                clear hsn hp0
                go_wp2_with fail
                go_meet
                exact ⟨by rw [HD.out]; first | done | rfl | simp, rfl⟩
              · have d3 : decide ((0 : Int) < (i : Int)) = false := by simp; omega
                have d4 : decide (0 < i) = false := by simp; omega
                have HD : Hid (decide (S ≠ n ∨ (0 < i ∧ k = 0)) = false) := hide (by rw [decide_eq_false_iff_not]; omega)
                clear hsn hp0
                go_wp2_with fail
                go_meet
                exact ⟨by rw [HD.out], rfl⟩
            · have d0 : (S != n) = true := by simp [hsn]
              have HD : Hid (decide (S ≠ n ∨ (0 < i ∧ k = 0)) = true) := hide (by rw [decide_eq_true_iff]; omega)
              clear hsn
              go_wp2_with fail
              go_meet
              exact ⟨by rw [HD.out], rfl⟩
          case rest =>
          obtain ⟨rfl, hw⟩ := hcut
          subst hw
          cases hbad : decide (S ≠ n ∨ (0 < i ∧ k = 0)) with
          | true =>
            have HE := hide (HD1.out (of_decide_eq_true hbad))
            clear hbad
            go_wp2_with fail
            go_ret
            exact ⟨ret_int HE.out.symm, HXW.out⟩
          | false =>
          have HNB := hide (of_decide_eq_false hbad)
          clear hbad HD1
          have HXW0 := hide HXW.out
          clear HXW x5 x6
          go_upto_region 17 with (fail)
          go_loopw [9] (fun ri wr => ∃ j : Nat, j ≤ k ∧ ri = .int .i64 j ∧ Hid (∀ m, m < j → behC C i m = false) ∧ Hid (Ext w4 wr)) (fun ri _ => k - (intOf ri).toNat)
          case atStart => exact ⟨0, by omega, rfl, hide (fun m hm => by omega), hide (Ext.refl _)⟩
          case round =>
            obtain ⟨j, hj, rfl, HBJ, HF4⟩ := hrel
            have HXW := hide (Ext.trans HXW0.out HF4.out)
            have x5 : wr.cell? ⟨w.heap.size, 5, none⟩ = some (.slice cA k cc) := (X4.out.ext HF4.out).cell 5
            have x6 : wr.cell? ⟨w.heap.size, 6, none⟩ = some (.slice pA i pc) := (X4.out.ext HF4.out).cell 6
            by_cases hjt : j < k
            · obtain ⟨b, off, rfl, _⟩ := H.out.addr (by omega)
              obtain ⟨a0, a1⟩ := (H.out.ext HXW.out).pair hjt
              have hbe : behC C i j = decide ((i : Int) < (C.getD j (0, 0)).1) := rfl
              have HS : Hid (behC C i j = false → ∀ m, m < j + 1 → behC C i m = false) := hide (fun h0 m hm => by
                rcases Nat.lt_succ_iff_lt_or_eq.1 hm with h | h
                · exact HBJ.out m h
                · rw [h]; exact h0)
              have HB := hide (HD2.out j hjt)
              generalize (C.getD j (0, 0)).1 = x at *
              have i1 : (j : Int) < (k : Int) := by omega
              have i0 : (0 : Int) ≤ (j : Int) := by omega
              have i8 : IntKind.i64.wrap ((j : Int) + 1) = (j : Int) + 1 := by rw [IntKind.wrap_i64]; omega
              go_upto_region 19 with (fail)
              go_cut [101] (fun sv wx => sv = .bool (decide ((i : Int) < x)) ∧ Hid (Ext wr wx))
              case first =>
                go_region
                go_wp2_with fail
                go_meet
                exact ⟨rfl, hide (by repeat' (first | (with_reducible exact Below.refl _ _) | (with_reducible assumption) | (with_reducible refine below_drewN ?_ _) | (with_reducible refine Below.drew ?_) | (with_reducible refine ext_alloc ?_ _) | (with_reducible refine Below.setCell ?_ ?_ _) | go_size))⟩
              case rest =>
              obtain ⟨rfl, F9⟩ := hcut
              by_cases hx : (i : Int) < x
              · have HE := hide (HB.out (by rw [hbe]; simp [hx]))
                clear hbe
                go_wp2_with fail
                go_ret
                exact ⟨ret_int HE.out.symm, Ext.trans HXW.out F9.out⟩
              · have HE := hide (HS.out (by rw [hbe]; simp; omega))
                clear hbe
                go_wp2_with fail
                exact ⟨⟨j + 1, by omega, by go_num, HE, hide (Ext.trans HF4.out F9.out)⟩, by simp [intOf]; omega⟩
            · obtain rfl : j = k := by omega
              have HCH : Hid (chunksF n C P = firstF (plEl P) P.length) := hide (by rw [HPL.out]; exact HD3.out HNB.out (fun m hm => HBJ.out m (by have := HL.out; omega)))
              clear hjt HD2 HD3 HBJ
              obtain ⟨w9, hw9⟩ : ∃ w9, w9 = wr := ⟨_, rfl⟩
              subst hw9
              go_upto_region 22 with (fail)
              go_loopw [10] (fun ri wr => ∃ q : Nat, q ≤ i ∧ ri = .int .i64 q ∧ Hid (∀ m, m < q → plEl P m = 0) ∧ w9 = wr) (fun ri _ => i - (intOf ri).toNat)
              case atStart => exact ⟨0, by omega, rfl, hide (fun m hm => by omega), rfl⟩
              case round =>
                obtain ⟨q, hq, rfl, HA, hw⟩ := hrel
                subst hw
                by_cases hqt : q < i
                · obtain ⟨b, off, rfl, _⟩ := HP.out.addr (by omega)
                  have a0 := (HP.out.ext HXW.out).num hqt
                  have hel : plEl P q = if P.getD q 0 < 0 ∨ 1000000 < P.getD q 0 then 1 else 0 := rfl
                  have HS : Hid (plEl P q = 0 → ∀ m, m < q + 1 → plEl P m = 0) := hide (fun h0 m hm => by
                    rcases Nat.lt_succ_iff_lt_or_eq.1 hm with h | h
                    · exact HA.out m h
                    · rw [h]; exact h0)
                  have HB := hide (HPB.out q hqt HA.out)
                  generalize P.getD q 0 = x at *
                  have i1 : (q : Int) < (i : Int) := by omega
                  have i0 : (0 : Int) ≤ (q : Int) := by omega
                  have i8 : IntKind.i64.wrap ((q : Int) + 1) = (q : Int) + 1 := by rw [IntKind.wrap_i64]; omega
                  by_cases hx : x < 0 ∨ 1000000 < x
                  · rw [if_pos hx] at hel
                    have HE : Hid (chunksF n C P = 1) := hide (by have := HB.out (by omega); rw [HCH.out]; omega)
                    clear hel
                    go_wp2_with ((go_at_call 22; with_reducible refine (within_no hx _).mono ?_); rintro e w' ⟨rfl, rfl⟩)
                    go_ret
                    exact ⟨ret_int HE.out.symm, HXW.out⟩
                  · rw [if_neg hx] at hel
                    have hx2 : 0 ≤ x ∧ x ≤ 1000000 := by omega
                    have HE := hide (HS.out hel)
                    clear hel hx
                    go_wp2_with ((go_at_call 22; with_reducible refine (within_yes hx2 _).mono ?_); rintro e w' ⟨rfl, rfl⟩)
                    exact ⟨⟨q + 1, by omega, by go_num, HE, by first | rfl | trivial⟩, by simp [intOf]; omega⟩
                · obtain rfl : q = i := by omega
                  have HE : Hid (chunksF n C P = 0) := hide (by rw [HCH.out]; exact firstF_zero (fun m hm => HA.out m (by have := HPL.out; omega)))
                  clear hqt
                  go_wp2_with fail
                  go_ret
                  exact ⟨ret_int HE.out.symm, HXW.out⟩
end Go.Proofs.Ytlonhkjplijlcaa
