/- Several texts in one: Walk: appendNumber. Conditions as stated; Walks: runsFault, counted, chunksFault, CheckTable (program). Conditions as stated; Walk: chunksFault (program). Conditions as stated; Walks: the program's source (number, flag, end). Conditions as stated. -/
import Derived.Test.YtlonhkjplijlcaaMrg05
import Derived.Test.YtlonhkjplijlcaaMrg00
import Derived.Test.YtlonhkjplijlcaaMrg04
import Derived.Deep.DeepCutAuto
import Derived.Test.YtlonhkjplijlcaaMrg01
import Derived.Test.YtlonhkjplijlcaaMrg02
namespace Go.Proofs.Ytlonhkjplijlcaa
open Go.RowKit
end Go.Proofs.Ytlonhkjplijlcaa
namespace Go.Proofs.Ytlonhkjplijlcaa
open Go.RowKit
set_option linter.unusedVariables false in
set_option maxRecDepth 100000 in
set_option maxHeartbeats 4000000 in
theorem runsFault_any {A : Option Addr} {n c : Nat} {l : List (Int × Int)} {least : Int} {w : World} (h : At w 2 e2 A n c l) :
    Calls Try.prog 83 #[.slice A n c, .int .i64 least] w fun e w' => e = .returned (.int .i64 (runsF least l)) ∧ Ext w w' := by
  have hb := h.bound
  have H := hide h
  have HL := hide h.len
  have HBAD := hide (fun (k : Nat) (hk : k < n) (ha : ∀ j, j < k → rnEl least l j = 0) (hn : rnEl least l k ≠ 0) => (firstF_at ha hn (n := l.length) (by rw [h.len]; exact hk) : firstF (rnEl least l) l.length = rnEl least l k))
  have HOK := hide (fun (ha : ∀ j, j < n → rnEl least l j = 0) => (firstF_zero (fun j hj => ha j (by rw [← h.len]; exact hj)) : firstF (rnEl least l) l.length = 0))
  clear h
  go_enter Try.func83, Try.ntmps83
  go_wp2_with fail
  go_loopw [9] (fun ri wr => ∃ k : Nat, k ≤ n ∧ ri = .int .i64 k ∧ Hid (∀ j, j < k → rnEl least l j = 0) ∧ Hid (Ext w wr)) (fun ri _ => n - (intOf ri).toNat)
  case atStart => exact ⟨0, by omega, rfl, hide (fun j hj => by omega), hide (Ext.refl _)⟩
  case round =>
    obtain ⟨k, hk, rfl, HA, HX⟩ := hrel
    by_cases hlt : k < n
    · obtain ⟨b, off, rfl, _⟩ := H.out.addr (by omega)
      obtain ⟨a0, a1⟩ := (H.out.ext HX.out).pair hlt
      have hel : rnEl least l k = if badR least (l.getD k (0, 0)) = true then 1 else 0 := rfl
      have hbr : badR least (l.getD k (0, 0)) = (decide ((l.getD k (0, 0)).1 < 1 ∨ 5000 < (l.getD k (0, 0)).1) || decide ((l.getD k (0, 0)).2 < least ∨ 1000000000 < (l.getD k (0, 0)).2)) := rfl
      have HS : Hid (rnEl least l k = 0 → ∀ j, j < k + 1 → rnEl least l j = 0) := hide (fun h0 j hj => by
        rcases Nat.lt_succ_iff_lt_or_eq.1 hj with h | h
        · exact HA.out j h
        · rw [h]; exact h0)
      have HB := hide (HBAD.out k hlt HA.out)
      generalize (l.getD k (0, 0)).1 = x at *
      generalize (l.getD k (0, 0)).2 = y at *
      have i1 : (k : Int) < (n : Int) := by omega
      have i0 : (0 : Int) ≤ (k : Int) := by omega
      have i8 : IntKind.i64.wrap ((k : Int) + 1) = (k : Int) + 1 := by rw [IntKind.wrap_i64]; omega
      by_cases hx : x < 1 ∨ 5000 < x
      · have HE : Hid (runsF least l = 1) := hide (by
          have h1 : rnEl least l k = 1 := by rw [hel, hbr, if_pos]; simp [hx]
          have := HB.out (by omega)
          unfold runsF; omega)
        clear hel hbr
        go_wp2_with ((go_at_call 15; with_reducible refine (out_yes hx _).mono ?_); rintro e w' ⟨rfl, rfl⟩)
        go_ret
        exact ⟨ret_int HE.out.symm, Ext.trans HX.out (by repeat' (first | (with_reducible exact Below.refl _ _) | (with_reducible assumption) | (with_reducible refine below_drewN ?_ _) | (with_reducible refine Below.drew ?_) | (with_reducible refine ext_alloc ?_ _) | (with_reducible refine Below.setCell ?_ ?_ _) | go_size))⟩
      · have hx2 : 1 ≤ x ∧ x ≤ 5000 := by omega
        by_cases hy : y < least ∨ 1000000000 < y
        · have HE : Hid (runsF least l = 1) := hide (by
            have h1 : rnEl least l k = 1 := by rw [hel, hbr, if_pos]; simp [hy]
            have := HB.out (by omega)
            unfold runsF; omega)
          clear hel hbr hx
          go_wp2_with (first | ((go_at_call 15; with_reducible refine (out_no hx2 _).mono ?_); rintro e w' ⟨rfl, rfl⟩) | ((go_at_call 15; with_reducible refine (out_yes hy _).mono ?_); rintro e w' ⟨rfl, rfl⟩))
          go_ret
          exact ⟨ret_int HE.out.symm, Ext.trans HX.out (by repeat' (first | (with_reducible exact Below.refl _ _) | (with_reducible assumption) | (with_reducible refine below_drewN ?_ _) | (with_reducible refine Below.drew ?_) | (with_reducible refine ext_alloc ?_ _) | (with_reducible refine Below.setCell ?_ ?_ _) | go_size))⟩
        · have hy2 : least ≤ y ∧ y ≤ 1000000000 := by omega
          have HE : Hid (rnEl least l k = 0) := hide (by rw [hel, hbr, if_neg]; simp [hx, hy])
          clear hel hbr hx hy
          go_wp2_with (first | ((go_at_call 15; with_reducible refine (out_no hx2 _).mono ?_); rintro e w' ⟨rfl, rfl⟩) | ((go_at_call 15; with_reducible refine (out_no hy2 _).mono ?_); rintro e w' ⟨rfl, rfl⟩))
          exact ⟨⟨k + 1, by omega, by go_num, hide (HS.out HE.out), hide (Ext.trans HX.out (by repeat' (first | (with_reducible exact Below.refl _ _) | (with_reducible assumption) | (with_reducible refine below_drewN ?_ _) | (with_reducible refine Below.drew ?_) | (with_reducible refine ext_alloc ?_ _) | (with_reducible refine Below.setCell ?_ ?_ _) | go_size)))⟩, by simp [intOf]; omega⟩
    · obtain rfl : k = n := by omega
      have HE : Hid (runsF least l = 0) := hide (HOK.out HA.out)
      clear hlt
      go_wp2_with fail
      go_ret
      exact ⟨ret_int HE.out.symm, HX.out⟩
set_option linter.unusedVariables false in
set_option maxRecDepth 100000 in
set_option maxHeartbeats 4000000 in
theorem counted_any {A : Option Addr} {n c : Nat} {l : List (Int × Int)} {least : Int} {w : World} (h : At w 2 e2 A n c l) (hr : runsF least l = 0) (hn : n ≤ 17592186044416) :
    Calls Try.prog 84 #[.slice A n c] w fun e w' => e = .returned (.int .i64 (cntA l)) ∧ Ext w w' := by
  have hb := h.bound
  have H := hide h
  have HL := hide h.len
  have HBD := hide (fun (k : Nat) (hk : k ≤ n) => cntI_bd hr k (by rw [h.len]; exact hk))
  clear h hr
  go_enter Try.func84, Try.ntmps84
  go_wp2_with fail
  go_loopw [3, 8] (fun rs ri wr => ∃ k : Nat, k ≤ n ∧ ri = .int .i64 k ∧ rs = .int .i64 (cntI l k) ∧ Hid (Ext w wr)) (fun _ ri _ => n - (intOf ri).toNat)
  case atStart => exact ⟨0, by omega, rfl, rfl, hide (Ext.refl _)⟩
  case round =>
    obtain ⟨k, hk, rfl, rfl, HX⟩ := hrel
    by_cases hlt : k < n
    · obtain ⟨b, off, rfl, _⟩ := H.out.addr (by omega)
      obtain ⟨a0, a1⟩ := (H.out.ext HX.out).pair hlt
      have hs : cntI l (k + 1) = cntI l k + (l.getD k (0, 0)).1 := rfl
      have hb1 := HBD.out (k + 1) (by omega)
      obtain ⟨C1, hC1⟩ : ∃ C1, C1 = cntI l (k + 1) := ⟨_, rfl⟩
      rw [← hC1] at hs hb1
      have HC1 := hide hC1
      clear hC1
      generalize cntI l k = C0 at *
      generalize (l.getD k (0, 0)).1 = x at *
      generalize (l.getD k (0, 0)).2 = y at *
      have i1 : (k : Int) < (n : Int) := by omega
      have i0 : (0 : Int) ≤ (k : Int) := by omega
      have i8 : IntKind.i64.wrap ((k : Int) + 1) = (k : Int) + 1 := by rw [IntKind.wrap_i64]; omega
      have u1 : IntKind.i64.wrap (C0 + x) = C1 := by rw [IntKind.wrap_i64]; omega
      clear hs hb1
      go_wp2_with fail
      exact ⟨⟨k + 1, by omega, by go_num, by rw [HC1.out], hide (Ext.trans HX.out (by repeat' (first | (with_reducible exact Below.refl _ _) | (with_reducible assumption) | (with_reducible refine below_drewN ?_ _) | (with_reducible refine Below.drew ?_) | (with_reducible refine ext_alloc ?_ _) | (with_reducible refine Below.setCell ?_ ?_ _) | go_size)))⟩, by simp [intOf]; omega⟩
    · obtain rfl : k = n := by omega
      have HE : Hid (cntA l = cntI l k) := hide (by unfold cntA; rw [HL.out])
      clear hlt
      go_wp2_with fail
      go_ret
      exact ⟨ret_int HE.out.symm, HX.out⟩
end Go.Proofs.Ytlonhkjplijlcaa
namespace Go.Proofs.Ytlonhkjplijlcaa
open Go.RowKit
/-- A table in memory. -/
structure TabAt (w : World) (sA : Option Addr) (sn sc : Nat) (hA : Option Addr) (hn hc : Nat) (zA : Option Addr) (zn zc : Nat) (kA : Option Addr) (kn kc : Nat) (cA : Option Addr) (cn cc : Nat) (pA : Option Addr) (pn pc : Nat) (t : Tab) : Prop where
  steps : At w 2 e2 sA sn sc t.steps
  shifts : At w 2 e2 hA hn hc t.shifts
  sizes : At w 1 e64 zA zn zc t.sizes
  keys : At w 1 e64 kA kn kc t.keys
  nok : kA = none ↔ t.nok = true
  chunks : At w 2 e2 cA cn cc t.chunks
  places : At w 1 e64 pA pn pc t.places
theorem TabAt.ext {w w' : World} {sA : Option Addr} {sn sc : Nat} {hA : Option Addr} {hn hc : Nat} {zA : Option Addr} {zn zc : Nat} {kA : Option Addr} {kn kc : Nat} {cA : Option Addr} {cn cc : Nat} {pA : Option Addr} {pn pc : Nat} {t : Tab}
    (h : TabAt w sA sn sc hA hn hc zA zn zc kA kn kc cA cn cc pA pn pc t) (he : Ext w w') : TabAt w' sA sn sc hA hn hc zA zn zc kA kn kc cA cn cc pA pn pc t :=
  ⟨h.steps.ext he, h.shifts.ext he, h.sizes.ext he, h.keys.ext he, h.nok, h.chunks.ext he, h.places.ext he⟩
set_option linter.unusedVariables false in
set_option maxRecDepth 100000 in
set_option maxHeartbeats 8000000 in
theorem chunksFault_any {st : Int} {sA : Option Addr} {sn sc : Nat} {hA : Option Addr} {hn hc : Nat} {zA : Option Addr} {zn zc : Nat} {kA : Option Addr} {kn kc : Nat} {cA : Option Addr} {cn cc : Nat} {pA : Option Addr} {pn pc : Nat} {C : List (Int × Int)} {P : List Int} {n : Int} {w : World}
    (h : At w 2 e2 cA cn cc C) (hp : At w 1 e64 pA pn pc P) (hpn : pn ≤ 17592186044416) :
    Calls Try.prog 85 #[.agg #[.int .i64 st, .slice sA sn sc, .slice hA hn hc, .slice zA zn zc, .slice kA kn kc, .slice cA cn cc, .slice pA pn pc], .int .i64 n] w fun e w' => e = .returned (.int .i64 (chunksF n C P)) ∧ Ext w w' := by
  have hcb := h.bound
  have E0 := hide (Ext.alloc w (.cells #[.int .i64 st, .slice sA sn sc, .slice hA hn hc, .slice zA zn zc, .slice kA kn kc, .slice cA cn cc, .slice pA pn pc] 73))
  have X0 := hide (Blk.new w 73 #[.int .i64 st, .slice sA sn sc, .slice hA hn hc, .slice zA zn zc, .slice kA kn kc, .slice cA cn cc, .slice pA pn pc])
  have H := hide h
  have HP := hide hp
  have HL := hide h.len
  have HPL := hide hp.len
  have HCF : Hid (chunksF n C P = if firstF (chEl C) C.length ≠ 0 then firstF (chEl C) C.length else if chForm C pn then 3 else if chSum C pn C.length ≠ n then 3 else firstF (plEl P) pn) := hide (by unfold chunksF; rw [hp.len])
  have HBAD := hide (fun (k : Nat) (hk : k < cn) (ha : ∀ j, j < k → chEl C j = 0) (hn : chEl C k ≠ 0) => (firstF_at ha hn (n := C.length) (by rw [h.len]; exact hk) : firstF (chEl C) C.length = chEl C k))
  have HOK := hide (fun (ha : ∀ j, j < cn → chEl C j = 0) => (firstF_zero (fun j hj => ha j (by rw [← h.len]; exact hj)) : firstF (chEl C) C.length = 0))
  have HPB := hide (fun (k : Nat) (hk : k < pn) (ha : ∀ j, j < k → plEl P j = 0) (hn : plEl P k ≠ 0) => (firstF_at ha hn hk : firstF (plEl P) pn = plEl P k))
  clear h hp
  go_enter Try.func85, Try.ntmps85
  go_upto_region 1 with (fail)
  refine gen_wpC fun w0 h0 => ?_
  have F0 : Hid (Ext w w0) := hide (by rw [h0]; exact E0.out)
  have X1 : Hid (Blk w0 w.heap.size 73 #[.int .i64 st, .slice sA sn sc, .slice hA hn hc, .slice zA zn zc, .slice kA kn kc, .slice cA cn cc, .slice pA pn pc]) := hide (by rw [h0]; exact X0.out)
  clear h0 E0 X0
  have x5 : w0.cell? ⟨w.heap.size, 5, none⟩ = some (.slice cA cn cc) := X1.out.cell 5
  go_wp2_with fail
  clear x5
  go_loopw [17] (fun ri wr => ∃ k : Nat, k ≤ cn ∧ ri = .int .i64 k ∧ Hid (∀ j, j < k → chEl C j = 0) ∧ Hid (Ext w0 wr)) (fun ri _ => cn - (intOf ri).toNat)
  case atStart => exact ⟨0, by omega, rfl, hide (fun j hj => by omega), hide (Ext.refl _)⟩
  case round =>
    obtain ⟨k, hk, rfl, HA, HX⟩ := hrel
    have HXW := hide (Ext.trans F0.out HX.out)
    by_cases hlt : k < cn
    · obtain ⟨b, off, rfl, _⟩ := H.out.addr (by omega)
      obtain ⟨a0, a1⟩ := (H.out.ext HXW.out).pair hlt
      have hpr : 0 < k → wr.cell? ⟨b, off + (k - 1) * 2, none⟩ = some (.int .i64 (C.getD (k - 1) (0, 0)).1) := fun h0 => ((H.out.ext HXW.out).pair (k := k - 1) (by omega)).1
      have x5 : wr.cell? ⟨w.heap.size, 5, none⟩ = some (.slice (some ⟨b, off, none⟩) cn cc) := (X1.out.ext HX.out).cell 5
      have hel : chEl C k = if badC (C.getD k (0, 0)) = true then 1 else if ordC C k = true then 8 else 0 := rfl
      have hbr : badC (C.getD k (0, 0)) = (decide ((C.getD k (0, 0)).1 < 1 ∨ 5000 < (C.getD k (0, 0)).1) || decide ((C.getD k (0, 0)).2 < 1 ∨ 1000 < (C.getD k (0, 0)).2)) := rfl
      have hod : ordC C k = decide ((k = 0 ∧ (C.getD k (0, 0)).1 ≠ 1) ∨ (0 < k ∧ (C.getD k (0, 0)).1 ≤ (C.getD (k - 1) (0, 0)).1)) := rfl
      have HS : Hid (chEl C k = 0 → ∀ j, j < k + 1 → chEl C j = 0) := hide (fun h0 j hj => by
        rcases Nat.lt_succ_iff_lt_or_eq.1 hj with h | h
        · exact HA.out j h
        · rw [h]; exact h0)
      have HB : Hid (chEl C k ≠ 0 → chunksF n C P = chEl C k) := hide (fun hn => by
        have := HBAD.out k hlt HA.out hn
        rw [HCF.out, this, if_pos hn])
      generalize (C.getD k (0, 0)).1 = x at *
      generalize (C.getD k (0, 0)).2 = y at *
      generalize (C.getD (k - 1) (0, 0)).1 = px at *
      have i1 : (k : Int) < (cn : Int) := by omega
      have i0 : (0 : Int) ≤ (k : Int) := by omega
      have i8 : IntKind.i64.wrap ((k : Int) + 1) = (k : Int) + 1 := by rw [IntKind.wrap_i64]; omega
      by_cases hx : x < 1 ∨ 5000 < x
      · have HE : Hid (chunksF n C P = 1) := hide (by
          have h1 : chEl C k = 1 := by rw [hel, hbr, if_pos]; simp [hx]
          have := HB.out (by omega)
          omega)
        clear hel hbr hod hpr x5
        go_wp2_with ((go_at_call 15; with_reducible refine (out_yes hx _).mono ?_); rintro e w' ⟨rfl, rfl⟩)
        go_ret
        exact ⟨ret_int HE.out.symm, Ext.trans HXW.out (by repeat' (first | (with_reducible exact Below.refl _ _) | (with_reducible assumption) | (with_reducible refine below_drewN ?_ _) | (with_reducible refine Below.drew ?_) | (with_reducible refine ext_alloc ?_ _) | (with_reducible refine Below.setCell ?_ ?_ _) | go_size))⟩
      have hx2 : 1 ≤ x ∧ x ≤ 5000 := by omega
      by_cases hy : y < 1 ∨ 1000 < y
      · have HE : Hid (chunksF n C P = 1) := hide (by
          have h1 : chEl C k = 1 := by rw [hel, hbr, if_pos]; simp [hy]
          have := HB.out (by omega)
          omega)
        clear hel hbr hod hpr x5 hx
        go_wp2_with (first | ((go_at_call 15; with_reducible refine (out_no hx2 _).mono ?_); rintro e w' ⟨rfl, rfl⟩) | ((go_at_call 15; with_reducible refine (out_yes hy _).mono ?_); rintro e w' ⟨rfl, rfl⟩))
        go_ret
        exact ⟨ret_int HE.out.symm, Ext.trans HXW.out (by repeat' (first | (with_reducible exact Below.refl _ _) | (with_reducible assumption) | (with_reducible refine below_drewN ?_ _) | (with_reducible refine Below.drew ?_) | (with_reducible refine ext_alloc ?_ _) | (with_reducible refine Below.setCell ?_ ?_ _) | go_size))⟩
      have hy2 : 1 ≤ y ∧ y ≤ 1000 := by omega
      have HE : Hid (chEl C k = if ordC C k = true then 8 else 0) := hide (by rw [hel, hbr, if_neg]; simp [hx, hy])
      have HOD := hide hod
      clear hel hbr hx hy hod
      go_upto_region 6 with (first | ((go_at_call 15; with_reducible refine (out_no hx2 _).mono ?_); rintro e w' ⟨rfl, rfl⟩) | ((go_at_call 15; with_reducible refine (out_no hy2 _).mono ?_); rintro e w' ⟨rfl, rfl⟩))
      refine gen_wpC fun w6 h6 => ?_
      have F6 : Hid (Ext wr w6) := hide (by rw [h6]; exact Ext.alloc _ _)
      have y0 : w6.cell? ⟨wr.heap.size, 0, none⟩ = some (.int .i64 x) := by rw [h6]; exact (Blk.new wr _ _).cell 0
      have y5 := F6.out.cell x5
      have ypr : 0 < k → w6.cell? ⟨b, off + (k - 1) * 2, none⟩ = some (.int .i64 px) := fun h0 => F6.out.cell (hpr h0)
      clear h6 x5 hpr a0 a1
      go_cut [31] (fun sv wx => sv = .bool (ordC C k) ∧ Hid (Ext wr wx))
      case first =>
        rcases Nat.eq_zero_or_pos k with hk0 | hk0
        · have d0 : ((k : Int) == 0) = true := by rw [beq_iff_eq]; omega
          have d1 : decide ((0 : Int) < (k : Int)) = false := by simp; omega
          have d2 : decide (0 < k) = false := by simp; omega
          have HO : Hid (ordC C k = (x != 1)) := hide (by rw [HOD.out, Bool.eq_iff_iff]; simp; omega)
          clear ypr
          by_cases hx1 : x = 1
          · have d3 : (x != 1) = false := by simp [hx1]
            go_wp2_with fail
            go_region
            go_wp2_with fail
            go_meet
            exact ⟨by rw [HO.out, d3], hide (Ext.trans F6.out (by repeat' (first | (with_reducible exact Below.refl _ _) | (with_reducible assumption) | (with_reducible refine below_drewN ?_ _) | (with_reducible refine Below.drew ?_) | (with_reducible refine ext_alloc ?_ _) | (with_reducible refine Below.setCell ?_ ?_ _) | go_size)))⟩
          · have d3 : (x != 1) = true := by simp [hx1]
            go_wp2_with fail
            go_region
            go_wp2_with fail
            go_meet
            exact ⟨by rw [HO.out, d3], hide (Ext.trans F6.out (by repeat' (first | (with_reducible exact Below.refl _ _) | (with_reducible assumption) | (with_reducible refine below_drewN ?_ _) | (with_reducible refine Below.drew ?_) | (with_reducible refine ext_alloc ?_ _) | (with_reducible refine Below.setCell ?_ ?_ _) | go_size)))⟩
        · have d0 : ((k : Int) == 0) = false := by rw [beq_eq_false_iff_ne]; omega
          have d1 : decide ((0 : Int) < (k : Int)) = true := by simp; omega
          have d2 : decide (0 < k) = true := by simp; omega
          have p0 := ypr hk0
          have i2 : IntKind.i64.wrap ((k : Int) - 1) = (k : Int) - 1 := by rw [IntKind.wrap_i64]; omega
          have i3 : ((k : Int) - 1).toNat = k - 1 := by omega
          have i4 : (0 : Int) ≤ (k : Int) - 1 := by omega
          have i5 : (k : Int) - 1 < (cn : Int) := by omega
          have i6 : (1 : Int) ≤ (k : Int) := by omega
          have i7 : (k : Int) ≤ (cn : Int) := by omega
          have HO : Hid (ordC C k = decide (x ≤ px)) := hide (by rw [HOD.out, Bool.eq_iff_iff]; simp; omega)
          clear ypr
          go_wp2_with fail
          go_region
          go_wp2_with fail
          go_meet
          exact ⟨by rw [HO.out], hide (Ext.trans F6.out (by repeat' (first | (with_reducible exact Below.refl _ _) | (with_reducible assumption) | (with_reducible refine below_drewN ?_ _) | (with_reducible refine Below.drew ?_) | (with_reducible refine ext_alloc ?_ _) | (with_reducible refine Below.setCell ?_ ?_ _) | go_size)))⟩
      case rest =>
      obtain ⟨rfl, F7⟩ := hcut
      cases ho : ordC C k with
      | true =>
        have HE2 : Hid (chunksF n C P = 8) := hide (by
          have h1 := HE.out
          rw [ho, if_pos rfl] at h1
          have := HB.out (by omega)
          omega)
        go_wp2_with fail
        go_ret
        exact ⟨ret_int HE2.out.symm, Ext.trans HXW.out F7.out⟩
      | false =>
        have HE2 : Hid (chEl C k = 0) := hide (by rw [HE.out, ho, if_neg (by simp)])
        go_wp2_with fail
        exact ⟨⟨k + 1, by omega, by go_num, hide (HS.out HE2.out), hide (Ext.trans HX.out F7.out)⟩, by simp [intOf]; omega⟩
    · obtain rfl : k = cn := by omega
      have hz := HOK.out HA.out
      have HCG : Hid (chunksF n C P = if chForm C pn then 3 else if chSum C pn C.length ≠ n then 3 else firstF (plEl P) pn) := hide (by rw [HCF.out, if_neg (by omega)])
      have hk5 : k ≤ 5000 := by have := ch_len hz; have := HL.out; omega
      have x5 : wr.cell? ⟨w.heap.size, 5, none⟩ = some (.slice cA k cc) := (X1.out.ext HX.out).cell 5
      have x6 : wr.cell? ⟨w.heap.size, 6, none⟩ = some (.slice pA pn pc) := (X1.out.ext HX.out).cell 6
      have HZ := hide hz
      have HLC := HL.out
      clear hz hlt HBAD HOK HCF
      go_upto_region 9 with (fail)
      go_upto_region 10 with (fail)
      go_cut [83] (fun sv wx => sv = .bool (decide (chForm C pn)) ∧ Hid (Ext wr wx))
      case first =>
        have HFM : Hid (chForm C pn ↔ (0 < pn ∧ k = 0) ∨ (0 < k ∧ (pn : Int) < (C.getD (k - 1) (0, 0)).1)) := hide (by unfold chForm; rw [HL.out])
        rcases Nat.eq_zero_or_pos k with hk0 | hk0
        · have d1 : decide ((0 : Int) < (k : Int)) = false := by simp; omega
          have d2 : decide (0 < k) = false := by simp; omega
          have d0 : ((k : Int) == 0) = true := by rw [beq_iff_eq]; omega
          by_cases hp0 : 0 < pn
          · have d3 : decide ((0 : Int) < (pn : Int)) = true := by simp; omega
            have d4 : decide (0 < pn) = true := by simp; omega
            have HO : Hid (decide (chForm C pn) = true) := hide (by rw [decide_eq_true_iff, HFM.out]; exact .inl ⟨hp0, hk0⟩)
            go_region
            go_wp2_with fail
            go_meet
            exact ⟨by rw [HO.out], hide (by repeat' (first | (with_reducible exact Below.refl _ _) | (with_reducible assumption) | (with_reducible refine below_drewN ?_ _) | (with_reducible refine Below.drew ?_) | (with_reducible refine ext_alloc ?_ _) | (with_reducible refine Below.setCell ?_ ?_ _) | go_size))⟩
          · have d3 : decide ((0 : Int) < (pn : Int)) = false := by simp; omega
            have d4 : decide (0 < pn) = false := by simp; omega
            have HO : Hid (decide (chForm C pn) = false) := hide (by rw [decide_eq_false_iff_not, HFM.out]; omega)
            go_region
            go_wp2_with fail
            go_meet
            exact ⟨by rw [HO.out], hide (by repeat' (first | (with_reducible exact Below.refl _ _) | (with_reducible assumption) | (with_reducible refine below_drewN ?_ _) | (with_reducible refine Below.drew ?_) | (with_reducible refine ext_alloc ?_ _) | (with_reducible refine Below.setCell ?_ ?_ _) | go_size))⟩
        · obtain ⟨b, off, rfl, _⟩ := H.out.addr (by omega)
          have p0 := ((H.out.ext HXW.out).pair (k := k - 1) (by omega)).1
          have d0 : ((k : Int) == 0) = false := by rw [beq_eq_false_iff_ne]; omega
          have d1 : decide ((0 : Int) < (k : Int)) = true := by simp; omega
          have d2 : decide (0 < k) = true := by simp; omega
          have i2 : IntKind.i64.wrap ((k : Int) - 1) = (k : Int) - 1 := by rw [IntKind.wrap_i64]; omega
          have i3 : ((k : Int) - 1).toNat = k - 1 := by omega
          have i4 : (0 : Int) ≤ (k : Int) - 1 := by omega
          have i5 : (k : Int) - 1 < (k : Int) := by omega
          have i6 : (1 : Int) ≤ (k : Int) := by omega
          generalize (C.getD (k - 1) (0, 0)).1 = px at *
          have HO : Hid (decide (chForm C pn) = decide ((pn : Int) < px)) := hide (by rw [decide_eq_decide, HFM.out]; omega)
          by_cases hp0 : 0 < pn
          · have d3 : decide ((0 : Int) < (pn : Int)) = true := by simp; omega
            have d4 : decide (0 < pn) = true := by simp; omega
            go_region
            go_wp2_with fail
            go_meet
            exact ⟨by rw [HO.out], hide (by repeat' (first | (with_reducible exact Below.refl _ _) | (with_reducible assumption) | (with_reducible refine below_drewN ?_ _) | (with_reducible refine Below.drew ?_) | (with_reducible refine ext_alloc ?_ _) | (with_reducible refine Below.setCell ?_ ?_ _) | go_size))⟩
          · have d3 : decide ((0 : Int) < (pn : Int)) = false := by simp; omega
            have d4 : decide (0 < pn) = false := by simp; omega
            go_region
            go_wp2_with fail
            go_meet
            exact ⟨by rw [HO.out], hide (by repeat' (first | (with_reducible exact Below.refl _ _) | (with_reducible assumption) | (with_reducible refine below_drewN ?_ _) | (with_reducible refine Below.drew ?_) | (with_reducible refine ext_alloc ?_ _) | (with_reducible refine Below.setCell ?_ ?_ _) | go_size))⟩
      case rest =>
      obtain ⟨rfl, F7⟩ := hcut
      have X7 := hide (X1.out.ext (Ext.trans HX.out F7.out))
      have F8 := hide (Ext.trans HXW.out F7.out)
      clear x5 x6 HX F7 HXW
      cases hf : decide (chForm C pn) with
      | true =>
        have HE : Hid (chunksF n C P = 3) := hide (by rw [HCG.out, if_pos (of_decide_eq_true hf)])
        clear hf
        go_wp2_with fail
        go_ret
        exact ⟨ret_int HE.out.symm, F8.out⟩
      | false =>
        have hnf := of_decide_eq_false hf
        have HCG2 : Hid (chunksF n C P = if chSum C pn k ≠ n then 3 else firstF (plEl P) pn) := hide (by rw [HCG.out, if_neg hnf, HL.out])
        have HSB := hide (fun (j : Nat) (hj : j < k) => chSum_bd HZ.out hnf j (by rw [HL.out]; exact hj))
        clear hf hnf HCG
        have x5 : wc.cell? ⟨w.heap.size, 5, none⟩ = some (.slice cA k cc) := X7.out.cell 5
        go_upto_region 14 with (fail)
        go_loopw [8, 87] (fun rs ri wr => ∃ j : Nat, j ≤ k ∧ ri = .int .i64 j ∧ rs = .int .i64 (chSum C pn j) ∧ Hid (Ext wc wr)) (fun _ ri _ => k - (intOf ri).toNat)
        case atStart => exact ⟨0, by omega, rfl, rfl, hide (Ext.refl _)⟩
        case round =>
          obtain ⟨j, hj, rfl, rfl, HX⟩ := hrel
          have HXW := hide (Ext.trans F8.out HX.out)
          by_cases hjt : j < k
          · obtain ⟨b, off, rfl, _⟩ := H.out.addr (by omega)
            obtain ⟨a0, a1⟩ := (H.out.ext HXW.out).pair hjt
            have hnx : j + 1 < k → wr.cell? ⟨b, off + (j + 1) * 2, none⟩ = some (.int .i64 (C.getD (j + 1) (0, 0)).1) := fun h0 => ((H.out.ext HXW.out).pair h0).1
            have x5 : wr.cell? ⟨w.heap.size, 5, none⟩ = some (.slice (some ⟨b, off, none⟩) k cc) := (X7.out.ext HX.out).cell 5
            have x6 : wr.cell? ⟨w.heap.size, 6, none⟩ = some (.slice pA pn pc) := (X7.out.ext HX.out).cell 6
            obtain ⟨s1, s2, s3⟩ := HSB.out j hjt
            have hcx := (ch_ok HZ.out j (by omega)).1
            obtain ⟨S1, hS1⟩ : ∃ S1, S1 = chSum C pn (j + 1) := ⟨_, rfl⟩
            have hs : S1 = chSum C pn j + (nextC C pn j - (C.getD j (0, 0)).1) * (C.getD j (0, 0)).2 := hS1
            have HS1 := hide hS1
            have HNX : Hid (nextC C pn j = if j + 1 < k then (C.getD (j + 1) (0, 0)).1 else (pn : Int) + 1) := hide (by unfold nextC; rw [HL.out])
            clear hS1
            generalize chSum C pn j = S0 at *
            generalize nextC C pn j = nx at *
            generalize (C.getD j (0, 0)).1 = x at *
            generalize (C.getD j (0, 0)).2 = y at *
            generalize (C.getD (j + 1) (0, 0)).1 = qx at *
            have i1 : (j : Int) < (k : Int) := by omega
            have i0 : (0 : Int) ≤ (j : Int) := by omega
            have i8 : IntKind.i64.wrap ((j : Int) + 1) = (j : Int) + 1 := by rw [IntKind.wrap_i64]; omega
            have u0 : IntKind.i64.wrap ((pn : Int) + 1) = (pn : Int) + 1 := by rw [IntKind.wrap_i64]; omega
            have u1 : IntKind.i64.wrap (nx - x) = nx - x := by rw [IntKind.wrap_i64]; omega
            obtain ⟨q, hq⟩ : ∃ q, q = (nx - x) * y := ⟨_, rfl⟩
            rw [← hq] at s3 hs
            have u2 : IntKind.i64.wrap ((nx - x) * y) = q := by rw [← hq, IntKind.wrap_i64]; omega
            have u3 : IntKind.i64.wrap (S0 + q) = S1 := by rw [IntKind.wrap_i64]; omega
            clear s1 s2 s3 hcx hs hq
            by_cases hjn : j + 1 < k
            · have e1 : nx = qx := by rw [HNX.out, if_pos hjn]
              subst e1
              have n1 := hnx hjn
              have d0 : (j : Int) + 1 < (k : Int) := by omega
              have d1 : decide ((j : Int) + 1 < (k : Int)) = true := by simp; omega
              have d2 : decide (j + 1 < k) = true := by simp; omega
              have i3 : ((j : Int) + 1).toNat = j + 1 := by omega
              have i4 : (0 : Int) ≤ (j : Int) + 1 := by omega
              clear hnx hjn
              go_upto_region 16 with (fail)
              refine gen_wpC fun w6 h6 => ?_
              have F6 : Hid (Ext wr w6) := hide (by rw [h6]; exact Ext.alloc _ _)
              have y0 : w6.cell? ⟨wr.heap.size, 0, none⟩ = some (.int .i64 x) := by rw [h6]; exact (Blk.new wr _ _).cell 0
              have y1 : w6.cell? ⟨wr.heap.size, 1, none⟩ = some (.int .i64 y) := by rw [h6]; exact (Blk.new wr _ _).cell 1
              have y5 := F6.out.cell x5
              have y6 := F6.out.cell x6
              have n2 := F6.out.cell n1
              clear h6 a0 a1 x5 x6 n1
              go_wp2_with fail
              exact ⟨⟨j + 1, by omega, by go_num, by rw [HS1.out], hide (Ext.trans HX.out F6.out)⟩, by simp [intOf]; omega⟩
            · have e1 : nx = (pn : Int) + 1 := by rw [HNX.out, if_neg hjn]
              subst e1
              have d0 : ¬ (j : Int) + 1 < (k : Int) := by omega
              have d1 : decide ((j : Int) + 1 < (k : Int)) = false := by simp; omega
              have d2 : decide (j + 1 < k) = false := by simp; omega
              clear hnx hjn
              go_upto_region 16 with (fail)
              refine gen_wpC fun w6 h6 => ?_
              have F6 : Hid (Ext wr w6) := hide (by rw [h6]; exact Ext.alloc _ _)
              have y0 : w6.cell? ⟨wr.heap.size, 0, none⟩ = some (.int .i64 x) := by rw [h6]; exact (Blk.new wr _ _).cell 0
              have y1 : w6.cell? ⟨wr.heap.size, 1, none⟩ = some (.int .i64 y) := by rw [h6]; exact (Blk.new wr _ _).cell 1
              have y5 := F6.out.cell x5
              have y6 := F6.out.cell x6
              clear h6 a0 a1 x5 x6
              go_wp2_with fail
              exact ⟨⟨j + 1, by omega, by go_num, by rw [HS1.out], hide (Ext.trans HX.out F6.out)⟩, by simp [intOf]; omega⟩
          · obtain rfl : j = k := by omega
            have x6 : wr.cell? ⟨w.heap.size, 6, none⟩ = some (.slice pA pn pc) := (X7.out.ext HX.out).cell 6
            clear hjt HSB
            generalize chSum C pn j = S at *
            by_cases hsn : S = n
            · have HCH : Hid (chunksF n C P = firstF (plEl P) pn) := hide (by rw [HCG2.out, if_neg (by omega)])
              have d0 : (S != n) = false := by simp [hsn]
              clear hsn HCG2
              go_upto_region 24 with (fail)
              refine gen_wpC fun w9 h9 => ?_
              have F9 : Hid (Ext w w9) := hide (by rw [h9]; exact HXW.out)
              clear h9 x6
              go_loopw [123] (fun ri wr => ∃ i : Nat, i ≤ pn ∧ ri = .int .i64 i ∧ Hid (∀ m, m < i → plEl P m = 0) ∧ Hid (Ext w9 wr)) (fun ri _ => pn - (intOf ri).toNat)
              case atStart => exact ⟨0, by omega, rfl, hide (fun j hj => by omega), hide (Ext.refl _)⟩
              case round =>
                obtain ⟨i, hi, rfl, HA, HY⟩ := hrel
                have HYW := hide (Ext.trans F9.out HY.out)
                by_cases hit : i < pn
                · obtain ⟨b, off, rfl, _⟩ := HP.out.addr (by omega)
                  have a0 := (HP.out.ext HYW.out).num hit
                  have hel : plEl P i = if P.getD i 0 < 0 ∨ 1000000 < P.getD i 0 then 1 else 0 := rfl
                  have HS : Hid (plEl P i = 0 → ∀ m, m < i + 1 → plEl P m = 0) := hide (fun h0 m hm => by
                    rcases Nat.lt_succ_iff_lt_or_eq.1 hm with h | h
                    · exact HA.out m h
                    · rw [h]; exact h0)
                  have HB := hide (HPB.out i hit HA.out)
                  generalize P.getD i 0 = x at *
                  have i1 : (i : Int) < (pn : Int) := by omega
                  have i0 : (0 : Int) ≤ (i : Int) := by omega
                  have i8 : IntKind.i64.wrap ((i : Int) + 1) = (i : Int) + 1 := by rw [IntKind.wrap_i64]; omega
                  by_cases hx : x < 0 ∨ 1000000 < x
                  · rw [if_pos hx] at hel
                    have HE : Hid (chunksF n C P = 1) := hide (by have := HB.out (by omega); rw [HCH.out]; omega)
                    clear hel
                    go_wp2_with ((go_at_call 15; with_reducible refine (out_yes hx _).mono ?_); rintro e w' ⟨rfl, rfl⟩)
                    go_ret
                    exact ⟨ret_int HE.out.symm, HYW.out⟩
                  · rw [if_neg hx] at hel
                    have hx2 : 0 ≤ x ∧ x ≤ 1000000 := by omega
                    have HE := hide (HS.out hel)
                    clear hel hx
                    go_wp2_with ((go_at_call 15; with_reducible refine (out_no hx2 _).mono ?_); rintro e w' ⟨rfl, rfl⟩)
                    exact ⟨⟨i + 1, by omega, by go_num, HE, HY⟩, by simp [intOf]; omega⟩
                · obtain rfl : i = pn := by omega
                  have HE : Hid (chunksF n C P = 0) := hide (by rw [HCH.out]; exact firstF_zero HA.out)
                  clear hit
                  go_wp2_with fail
                  go_ret
                  exact ⟨ret_int HE.out.symm, HYW.out⟩
            · have HE : Hid (chunksF n C P = 3) := hide (by rw [HCG2.out, if_pos hsn])
              have d0 : (S != n) = true := by simp [hsn]
              clear hsn HCG2
              go_wp2_with fail
              go_ret
              exact ⟨ret_int HE.out.symm, HXW.out⟩
end Go.Proofs.Ytlonhkjplijlcaa
namespace Go.Proofs.Ytlonhkjplijlcaa
open Go.RowKit
abbrev srcC (A : Option Addr) (n c : Nat) (s : Rd) : Array Value := #[.slice A n c, .int .i64 (s.pos : Int), .bool s.bad]
theorem At.twn {α : Type} {w w' : World} {sz : Nat} {enc : α → List Value} {A : Option Addr} {n c : Nat} {xs : List α} {o : Nat} (h : At w sz enc A n c xs) (hF : Tw w w' o none) (hne : 0 < n → ∀ a, A = some a → a.block ≠ o) : At w' sz enc A n c xs := by
  rcases Nat.eq_zero_or_pos n with h0 | h0
  · have hl := h.len
    obtain rfl : xs = [] := List.eq_nil_of_length_eq_zero (by omega)
    exact ⟨h.len, h.le, h.max, h.none_, fun k x hx => by simp at hx⟩
  · exact h.tw hF (fun a ha => ⟨hne h0 a ha, by simp⟩)
set_option linter.unusedVariables false in
set_option maxRecDepth 100000 in
set_option maxHeartbeats 4000000 in
theorem srcNumber_any {sb : Nat} {A : Option Addr} {n c k : Nat} {b : List UInt8} {s : Rd} {w : World} (hB : Blk w sb 157 (srcC A n c s)) (h : At w 1 e8 A n c b) (hne : 0 < n → ∀ a, A = some a → a.block ≠ sb) (hp : s.pos ≤ n) (hk : 1 ≤ k ∧ k ≤ 8) :
    Calls Try.prog 98 #[.pointer (some ⟨sb, 0, none⟩), .int .i64 (k : Int)] w fun e w' => e = .returned (.int .u64 ((rdN b k s).1 : Int)) ∧ Blk w' sb 157 (srcC A n c (rdN b k s).2) ∧ Tw w w' sb none := by
  obtain ⟨hk1, hk2⟩ := hk
  have hl := h.len
  have hb := h.bound
  have hle := h.le
  have hbc := h.boundc
  obtain ⟨at_, bad⟩ := s
  have hp : at_ ≤ n := hp
  have HB := hide hB
  have c0 : w.cell? ⟨sb, 0, none⟩ = some (.slice A n c) := hB.cell 0
  have c1 : w.cell? ⟨sb, 1, none⟩ = some (.int .i64 (at_ : Int)) := hB.cell 1
  have c2 : w.cell? ⟨sb, 2, none⟩ = some (.bool bad) := hB.cell 2
  have z1 : w.frozen? ⟨sb, 1, none⟩ = false := hB.frozen 1
  have z2 : w.frozen? ⟨sb, 2, none⟩ = false := hB.frozen 2
  have hsb := hB.lt
  have HL := hide hl
  have H := hide h
  have HNE := hide hne
  have d1 : IntKind.i64.wrap ((n : Int) - (at_ : Int)) = (n : Int) - (at_ : Int) := by rw [IntKind.wrap_i64]; omega
  clear hB h hl hne
  cases bad with
  | true =>
    have HR : Hid (rdN b k ⟨at_, true⟩ = (0, ⟨at_, true⟩)) := hide (rdN_bad (.inl rfl))
    go_enter Try.func98, Try.ntmps98
    go_wp2_with fail
    go_quiet (fail)
    go_wp2_with fail
    go_ret
    rw [HR.out]
    exact ⟨rfl, (HB.out.drewN _).set_ 2 _, (Tw.of_ext (Ext.drewN _ _) _ _).trans (Tw.set_ _ _ _ _ _)⟩
  | false =>
    by_cases hs : n - at_ < k
    · have HR : Hid (rdN b k ⟨at_, false⟩ = (0, ⟨at_, true⟩)) := hide (rdN_bad (.inr (by show b.length - at_ < k; have := HL.out; omega)))
      have i1 : (n : Int) - (at_ : Int) < (k : Int) := by omega
      have i2 : decide ((n : Int) - (at_ : Int) < (k : Int)) = true := by simp; omega
      clear hs
      go_enter Try.func98, Try.ntmps98
      go_wp2_with fail
      go_quiet (fail)
      go_wp2_with fail
      go_ret
      rw [HR.out]
      exact ⟨rfl, (HB.out.drewN _).set_ 2 _, (Tw.of_ext (Ext.drewN _ _) _ _).trans (Tw.set_ _ _ _ _ _)⟩
    · have HR : Hid (rdN b k ⟨at_, false⟩ = (numB (cutB b at_ (at_ + k)), ⟨at_ + k, false⟩)) := hide (rdN_ok rfl (by show k ≤ b.length - at_; have := HL.out; omega))
      have i1 : ¬ (n : Int) - (at_ : Int) < (k : Int) := by omega
      have i2 : decide ((n : Int) - (at_ : Int) < (k : Int)) = false := by simp; omega
      have d2 : IntKind.i64.wrap ((at_ : Int) + (k : Int)) = (at_ : Int) + (k : Int) := by rw [IntKind.wrap_i64]; omega
      have d3 : IntKind.i64.wrap ((at_ : Int) + (k : Int) - (k : Int)) = (at_ : Int) := by rw [IntKind.wrap_i64]; omega
      obtain ⟨A1, hr1, ha1⟩ := H.out.range_ Try.underlying26 (fun _ => by kernel_rfl) (k := at_) (m := at_ + k) (by omega) (by omega) (at_ : Int) ((at_ : Int) + (k : Int)) rfl (by omega)
      have e1 : (b.drop at_).take (at_ + k - at_) = cutB b at_ (at_ + k) := rfl
      rw [e1] at ha1
      rw [show at_ + k - at_ = k by omega] at hr1 ha1
      have HN := hide (fun (W : World) (hW : Tw w W sb none) => numberOf_any (ha1 W (H.out.twn hW HNE.out)) (by omega))
      generalize numB (cutB b at_ (at_ + k)) = v at *
      clear ha1 e1 hs
      go_enter Try.func98, Try.ntmps98
      go_wp2_with fail
      go_quiet (fail)
      go_upto_region 5 with (fail)
      refine gen_wpC fun w2 h2 => ?_
      have T2 : Hid (Tw w w2 sb none) := hide (by rw [h2]; exact (Tw.of_ext (Ext.drewN _ _) _ _).trans (Tw.set_ _ _ _ _ _))
      have B2 : Hid (Blk w2 sb 157 #[.slice A n c, .int .i64 ((at_ : Int) + (k : Int)), .bool false]) := hide (by rw [h2]; exact (HB.out.drewN _).set_ 1 _)
      have c0 : w2.cell? ⟨sb, 0, none⟩ = some (.slice A n c) := B2.out.cell 0
      have c1 : w2.cell? ⟨sb, 1, none⟩ = some (.int .i64 ((at_ : Int) + (k : Int))) := B2.out.cell 1
      clear h2
      go_quiet ((go_at_call 56; exact quiet_left (HN.out _ (T2.out.drewN _))))
      go_wp2_with fail
      go_ret
      rw [HR.out]
      exact ⟨rfl, (by have := B2.out.drewN nq; rw [← Int.natCast_add] at this; exact this), T2.out.drewN _⟩
theorem srcN {sb : Nat} {A : Option Addr} {n c : Nat} {b : List UInt8} {s : Rd} {w : World} (k : Nat) (z : Int) (hz : (k : Int) = z) (hB : Blk w sb 157 (srcC A n c s)) (h : At w 1 e8 A n c b) (hne : 0 < n → ∀ a, A = some a → a.block ≠ sb) (hp : s.pos ≤ n) (hk : 1 ≤ k ∧ k ≤ 8) :
    Calls Try.prog 98 #[.pointer (some ⟨sb, 0, none⟩), .int .i64 z] w fun e w' => e = .returned (.int .u64 ((rdN b k s).1 : Int)) ∧ Blk w' sb 157 (srcC A n c (rdN b k s).2) ∧ Tw w w' sb none := by
  rw [← hz]; exact srcNumber_any hB h hne hp hk
set_option linter.unusedVariables false in
set_option maxRecDepth 100000 in
set_option maxHeartbeats 4000000 in
theorem srcFlag_any {sb : Nat} {A : Option Addr} {n c most : Nat} {b : List UInt8} {s : Rd} {w : World} (hB : Blk w sb 157 (srcC A n c s)) (h : At w 1 e8 A n c b) (hne : 0 < n → ∀ a, A = some a → a.block ≠ sb) (hp : s.pos ≤ n) (hm : most < 256) :
    Calls Try.prog 101 #[.pointer (some ⟨sb, 0, none⟩), .int .u8 (most : Int)] w fun e w' => e = .returned (.int .u8 ((rdF b most s).1 : Int)) ∧ Blk w' sb 157 (srcC A n c (rdF b most s).2) ∧ Tw w w' sb none := by
  have hN := srcN 1 1 rfl hB h hne hp (by omega)
  have hlt := rdN_lt (b := b) (k := 1) s (by omega)
  have hlt : (rdN b 1 s).1 < 256 := by simpa using hlt
  have hF : rdF b most s = if (rdN b 1 s).2.bad = false ∧ most < (rdN b 1 s).1 then ((rdN b 1 s).1, ⟨s.pos, true⟩) else rdN b 1 s := rfl
  have c1 : w.cell? ⟨sb, 1, none⟩ = some (.int .i64 (s.pos : Int)) := hB.cell 1
  obtain ⟨r, hr⟩ : ∃ r, r = rdN b 1 s := ⟨_, rfl⟩
  rw [← hr] at hN hlt hF
  obtain ⟨v, p, bd⟩ := r
  have HN := hide hN
  have HF := hide hF
  have hlt : v < 256 := hlt
  have h256 : (v : Int) % 256 = (v : Int) := by omega
  clear hN hF hB h hr hne
  go_enter Try.func101, Try.ntmps101
  go_wp2_with fail
  with_reducible refine HN.out.mono ?_
  rintro e w1 ⟨rfl, b1, t1⟩
  have B1 := hide b1
  have T1 := hide t1
  have d2 : w1.cell? ⟨sb, 2, none⟩ = some (.bool bd) := b1.cell 2
  have z1 : w1.frozen? ⟨sb, 1, none⟩ = false := b1.frozen 1
  have z2 : w1.frozen? ⟨sb, 2, none⟩ = false := b1.frozen 2
  have d1 : w1.cell? ⟨sb, 1, none⟩ = some (.int .i64 (p : Int)) := b1.cell 1
  clear b1 t1 c1
  cases bd with
  | true =>
    have HR : Hid (rdF b most s = (v, ⟨p, true⟩)) := hide (by rw [HF.out, if_neg (by simp)])
    go_wp2_with fail
    go_ret
    rw [HR.out]
    exact ⟨rfl, B1.out, T1.out⟩
  | false =>
    by_cases hm2 : most < v
    · have HR : Hid (rdF b most s = (v, ⟨s.pos, true⟩)) := hide (by rw [HF.out, if_pos ⟨rfl, hm2⟩])
      have i1 : (most : Int) < (v : Int) := by omega
      have i2 : decide ((most : Int) < (v : Int)) = true := by simp; omega
      have i3 : decide (most < v) = true := by simp; omega
      clear hm2
      go_wp2_with fail
      go_ret
      rw [HR.out]
      exact ⟨rfl, (B1.out.set_ 1 _).set_ 2 _, (T1.out.trans (Tw.set_ _ _ _ _ _)).trans (Tw.set_ _ _ _ _ _)⟩
    · have HR : Hid (rdF b most s = (v, ⟨p, false⟩)) := hide (by rw [HF.out, if_neg (fun h => hm2 h.2)])
      have i1 : ¬ (most : Int) < (v : Int) := by omega
      have i2 : decide ((most : Int) < (v : Int)) = false := by simp; omega
      have i3 : decide (most < v) = false := by simp; omega
      clear hm2
      go_wp2_with fail
      go_ret
      rw [HR.out]
      exact ⟨rfl, B1.out, T1.out⟩
theorem srcFl {sb : Nat} {A : Option Addr} {n c : Nat} {b : List UInt8} {s : Rd} {w : World} (most : Nat) (z : Int) (hz : (most : Int) = z) (hB : Blk w sb 157 (srcC A n c s)) (h : At w 1 e8 A n c b) (hne : 0 < n → ∀ a, A = some a → a.block ≠ sb) (hp : s.pos ≤ n) (hm : most < 256) :
    Calls Try.prog 101 #[.pointer (some ⟨sb, 0, none⟩), .int .u8 z] w fun e w' => e = .returned (.int .u8 ((rdF b most s).1 : Int)) ∧ Blk w' sb 157 (srcC A n c (rdF b most s).2) ∧ Tw w w' sb none := by
  rw [← hz]; exact srcFlag_any hB h hne hp hm
set_option linter.unusedVariables false in
set_option maxRecDepth 100000 in
set_option maxHeartbeats 4000000 in
theorem srcEnd_any {sb : Nat} {A : Option Addr} {n c : Nat} {b : List UInt8} {s : Rd} {w : World} (hB : Blk w sb 157 (srcC A n c s)) (h : At w 1 e8 A n c b) :
    Calls Try.prog 102 #[.pointer (some ⟨sb, 0, none⟩)] w fun e w' => e = .returned (.bool (!(rdE b s).bad)) ∧ Blk w' sb 157 (srcC A n c (rdE b s)) ∧ Tw w w' sb none := by
  obtain ⟨at_, bad⟩ := s
  have hl := h.len
  have hb := h.bound
  have hF : rdE b ⟨at_, bad⟩ = if bad = false ∧ at_ < b.length then ⟨at_, true⟩ else ⟨at_, bad⟩ := rfl
  rw [hl] at hF
  have HB := hide hB
  have c0 : w.cell? ⟨sb, 0, none⟩ = some (.slice A n c) := hB.cell 0
  have c1 : w.cell? ⟨sb, 1, none⟩ = some (.int .i64 (at_ : Int)) := hB.cell 1
  have c2 : w.cell? ⟨sb, 2, none⟩ = some (.bool bad) := hB.cell 2
  have z2 : w.frozen? ⟨sb, 2, none⟩ = false := hB.frozen 2
  have HF := hide hF
  clear hB h hl hF
  cases bad with
  | true =>
    have HR : Hid (rdE b ⟨at_, true⟩ = ⟨at_, true⟩) := hide (by rw [HF.out, if_neg (by simp)])
    go_enter Try.func102, Try.ntmps102
    go_wp2_with fail
    go_quiet (fail)
    go_wp2_with fail
    go_ret
    rw [HR.out]
    exact ⟨rfl, HB.out.drewN _, Tw.of_ext (Ext.drewN _ _) _ _⟩
  | false =>
    by_cases hs : at_ < n
    · have HR : Hid (rdE b ⟨at_, false⟩ = ⟨at_, true⟩) := hide (by rw [HF.out, if_pos ⟨rfl, hs⟩])
      have i1 : (at_ : Int) < (n : Int) := by omega
      have i2 : decide ((at_ : Int) < (n : Int)) = true := by simp; omega
      have i3 : decide (at_ < n) = true := by simp; omega
      clear hs
      go_enter Try.func102, Try.ntmps102
      go_wp2_with fail
      go_quiet (fail)
      go_wp2_with fail
      go_ret
      rw [HR.out]
      exact ⟨rfl, (HB.out.drewN _).set_ 2 _, (Tw.of_ext (Ext.drewN _ _) _ _).trans (Tw.set_ _ _ _ _ _)⟩
    · have HR : Hid (rdE b ⟨at_, false⟩ = ⟨at_, false⟩) := hide (by rw [HF.out, if_neg (fun h => hs h.2)])
      have i1 : ¬ (at_ : Int) < (n : Int) := by omega
      have i2 : decide ((at_ : Int) < (n : Int)) = false := by simp; omega
      have i3 : decide (at_ < n) = false := by simp; omega
      clear hs
      go_enter Try.func102, Try.ntmps102
      go_wp2_with fail
      go_quiet (fail)
      go_wp2_with fail
      go_ret
      rw [HR.out]
      exact ⟨rfl, HB.out.drewN _, Tw.of_ext (Ext.drewN _ _) _ _⟩
end Go.Proofs.Ytlonhkjplijlcaa
