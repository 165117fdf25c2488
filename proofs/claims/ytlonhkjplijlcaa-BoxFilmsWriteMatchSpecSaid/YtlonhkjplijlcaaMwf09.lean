/- Several texts in one: Walk: chunksFault (program). Conditions as stated; Reading numbers out of bytes, in plain words. Plain. -/
import Derived.Test.YtlonhkjplijlcaaMwf08
import Derived.Test.YtlonhkjplijlcaaMwf03
namespace Go.Proofs.Ytlonhkjplijlcaa
open Go.RowKit
/-- A table in memory. -/
structure TabAt (w : World) (sA : Option Addr) (sn sc : Nat) (hA : Option Addr) (hn hc : Nat) (zA : Option Addr) (zn zc : Nat) (kA : Option Addr) (kn kc : Nat) (cA : Option Addr) (cn cc : Nat) (pA : Option Addr) (pn pc : Nat) (t : Tab) : Prop where
  steps : At w 2 e2 sA sn sc t.steps
  shifts : At w 2 e2 hA hn hc t.shifts
  sizes : At w 1 e64 zA zn zc t.sizes
  keys : At w 1 e64 kA kn kc t.keys
  nok : kA = none ↔ t.nok = true
  chunks : At w 2 e2 cA cn cc t.chunks
  places : At w 1 e64 pA pn pc t.places
theorem TabAt.ext {w w' : World} {sA : Option Addr} {sn sc : Nat} {hA : Option Addr} {hn hc : Nat} {zA : Option Addr} {zn zc : Nat} {kA : Option Addr} {kn kc : Nat} {cA : Option Addr} {cn cc : Nat} {pA : Option Addr} {pn pc : Nat} {t : Tab}
    (h : TabAt w sA sn sc hA hn hc zA zn zc kA kn kc cA cn cc pA pn pc t) (he : Ext w w') : TabAt w' sA sn sc hA hn hc zA zn zc kA kn kc cA cn cc pA pn pc t :=
  ⟨h.steps.ext he, h.shifts.ext he, h.sizes.ext he, h.keys.ext he, h.nok, h.chunks.ext he, h.places.ext he⟩
set_option linter.unusedVariables false in
set_option maxRecDepth 100000 in
set_option maxHeartbeats 8000000 in
theorem chunksFault_any {st : Int} {sA : Option Addr} {sn sc : Nat} {hA : Option Addr} {hn hc : Nat} {zA : Option Addr} {zn zc : Nat} {kA : Option Addr} {kn kc : Nat} {cA : Option Addr} {cn cc : Nat} {pA : Option Addr} {pn pc : Nat} {C : List (Int × Int)} {P : List Int} {n : Int} {w : World}
    (h : At w 2 e2 cA cn cc C) (hp : At w 1 e64 pA pn pc P) (hpn : pn ≤ 17592186044416) :
    Calls Try.prog 85 #[.agg #[.int .i64 st, .slice sA sn sc, .slice hA hn hc, .slice zA zn zc, .slice kA kn kc, .slice cA cn cc, .slice pA pn pc], .int .i64 n] w fun e w' => e = .returned (.int .i64 (chunksF n C P)) ∧ Ext w w' := by
  have hcb := h.bound
  have E0 := hide (Ext.alloc w (.cells #[.int .i64 st, .slice sA sn sc, .slice hA hn hc, .slice zA zn zc, .slice kA kn kc, .slice cA cn cc, .slice pA pn pc] 73))
  have X0 := hide (Blk.new w 73 #[.int .i64 st, .slice sA sn sc, .slice hA hn hc, .slice zA zn zc, .slice kA kn kc, .slice cA cn cc, .slice pA pn pc])
  have H := hide h
  have HP := hide hp
  have HL := hide h.len
  have HPL := hide hp.len
  have HCF : Hid (chunksF n C P = if firstF (chEl C) C.length ≠ 0 then firstF (chEl C) C.length else if chForm C pn then 3 else if chSum C pn C.length ≠ n then 3 else firstF (plEl P) pn) := hide (by unfold chunksF; rw [hp.len])
  have HBAD := hide (fun (k : Nat) (hk : k < cn) (ha : ∀ j, j < k → chEl C j = 0) (hn : chEl C k ≠ 0) => (firstF_at ha hn (n := C.length) (by rw [h.len]; exact hk) : firstF (chEl C) C.length = chEl C k))
  have HOK := hide (fun (ha : ∀ j, j < cn → chEl C j = 0) => (firstF_zero (fun j hj => ha j (by rw [← h.len]; exact hj)) : firstF (chEl C) C.length = 0))
  have HPB := hide (fun (k : Nat) (hk : k < pn) (ha : ∀ j, j < k → plEl P j = 0) (hn : plEl P k ≠ 0) => (firstF_at ha hn hk : firstF (plEl P) pn = plEl P k))
  clear h hp
  go_enter Try.func85, Try.ntmps85
  go_upto_region 1 with (fail)
  refine gen_wpC fun w0 h0 => ?_
  have F0 : Hid (Ext w w0) := hide (by rw [h0]; exact E0.out)
  have X1 : Hid (Blk w0 w.heap.size 73 #[.int .i64 st, .slice sA sn sc, .slice hA hn hc, .slice zA zn zc, .slice kA kn kc, .slice cA cn cc, .slice pA pn pc]) := hide (by rw [h0]; exact X0.out)
  clear h0 E0 X0
  have x5 : w0.cell? ⟨w.heap.size, 5, none⟩ = some (.slice cA cn cc) := X1.out.cell 5
  go_wp2_with fail
  clear x5
  go_loopw [17] (fun ri wr => ∃ k : Nat, k ≤ cn ∧ ri = .int .i64 k ∧ Hid (∀ j, j < k → chEl C j = 0) ∧ Hid (Ext w0 wr)) (fun ri _ => cn - (intOf ri).toNat)
  case atStart => exact ⟨0, by omega, rfl, hide (fun j hj => by omega), hide (Ext.refl _)⟩
  case round =>
    obtain ⟨k, hk, rfl, HA, HX⟩ := hrel
    have HXW := hide (Ext.trans F0.out HX.out)
    by_cases hlt : k < cn
    · obtain ⟨b, off, rfl, _⟩ := H.out.addr (by omega)
      obtain ⟨a0, a1⟩ := (H.out.ext HXW.out).pair hlt
      have hpr : 0 < k → wr.cell? ⟨b, off + (k - 1) * 2, none⟩ = some (.int .i64 (C.getD (k - 1) (0, 0)).1) := fun h0 => ((H.out.ext HXW.out).pair (k := k - 1) (by omega)).1
      have x5 : wr.cell? ⟨w.heap.size, 5, none⟩ = some (.slice (some ⟨b, off, none⟩) cn cc) := (X1.out.ext HX.out).cell 5
      have hel : chEl C k = if badC (C.getD k (0, 0)) = true then 1 else if ordC C k = true then 8 else 0 := rfl
      have hbr : badC (C.getD k (0, 0)) = (decide ((C.getD k (0, 0)).1 < 1 ∨ 5000 < (C.getD k (0, 0)).1) || decide ((C.getD k (0, 0)).2 < 1 ∨ 1000 < (C.getD k (0, 0)).2)) := rfl
      have hod : ordC C k = decide ((k = 0 ∧ (C.getD k (0, 0)).1 ≠ 1) ∨ (0 < k ∧ (C.getD k (0, 0)).1 ≤ (C.getD (k - 1) (0, 0)).1)) := rfl
      have HS : Hid (chEl C k = 0 → ∀ j, j < k + 1 → chEl C j = 0) := hide (fun h0 j hj => by
        rcases Nat.lt_succ_iff_lt_or_eq.1 hj with h | h
        · exact HA.out j h
        · rw [h]; exact h0)
      have HB : Hid (chEl C k ≠ 0 → chunksF n C P = chEl C k) := hide (fun hn => by
        have := HBAD.out k hlt HA.out hn
        rw [HCF.out, this, if_pos hn])
      generalize (C.getD k (0, 0)).1 = x at *
      generalize (C.getD k (0, 0)).2 = y at *
      generalize (C.getD (k - 1) (0, 0)).1 = px at *
      have i1 : (k : Int) < (cn : Int) := by omega
      have i0 : (0 : Int) ≤ (k : Int) := by omega
      have i8 : IntKind.i64.wrap ((k : Int) + 1) = (k : Int) + 1 := by rw [IntKind.wrap_i64]; omega
      by_cases hx : x < 1 ∨ 5000 < x
      · have HE : Hid (chunksF n C P = 1) := hide (by
          have h1 : chEl C k = 1 := by rw [hel, hbr, if_pos]; simp [hx]
          have := HB.out (by omega)
          omega)
        clear hel hbr hod hpr x5
        go_wp2_with ((go_at_call 15; with_reducible refine (out_yes hx _).mono ?_); rintro e w' ⟨rfl, rfl⟩)
        go_ret
        exact ⟨ret_int HE.out.symm, Ext.trans HXW.out (by repeat' (first | (with_reducible exact Below.refl _ _) | (with_reducible assumption) | (with_reducible refine below_drewN ?_ _) | (with_reducible refine Below.drew ?_) | (with_reducible refine ext_alloc ?_ _) | (with_reducible refine Below.setCell ?_ ?_ _) | go_size))⟩
      have hx2 : 1 ≤ x ∧ x ≤ 5000 := by omega
      by_cases hy : y < 1 ∨ 1000 < y
      · have HE : Hid (chunksF n C P = 1) := hide (by
          have h1 : chEl C k = 1 := by rw [hel, hbr, if_pos]; simp [hy]
          have := HB.out (by omega)
          omega)
        clear hel hbr hod hpr x5 hx
        go_wp2_with (first | ((go_at_call 15; with_reducible refine (out_no hx2 _).mono ?_); rintro e w' ⟨rfl, rfl⟩) | ((go_at_call 15; with_reducible refine (out_yes hy _).mono ?_); rintro e w' ⟨rfl, rfl⟩))
        go_ret
        exact ⟨ret_int HE.out.symm, Ext.trans HXW.out (by repeat' (first | (with_reducible exact Below.refl _ _) | (with_reducible assumption) | (with_reducible refine below_drewN ?_ _) | (with_reducible refine Below.drew ?_) | (with_reducible refine ext_alloc ?_ _) | (with_reducible refine Below.setCell ?_ ?_ _) | go_size))⟩
      have hy2 : 1 ≤ y ∧ y ≤ 1000 := by omega
      have HE : Hid (chEl C k = if ordC C k = true then 8 else 0) := hide (by rw [hel, hbr, if_neg]; simp [hx, hy])
      have HOD := hide hod
      clear hel hbr hx hy hod
      go_upto_region 6 with (first | ((go_at_call 15; with_reducible refine (out_no hx2 _).mono ?_); rintro e w' ⟨rfl, rfl⟩) | ((go_at_call 15; with_reducible refine (out_no hy2 _).mono ?_); rintro e w' ⟨rfl, rfl⟩))
      refine gen_wpC fun w6 h6 => ?_
      have F6 : Hid (Ext wr w6) := hide (by rw [h6]; exact Ext.alloc _ _)
      have y0 : w6.cell? ⟨wr.heap.size, 0, none⟩ = some (.int .i64 x) := by rw [h6]; exact (Blk.new wr _ _).cell 0
      have y5 := F6.out.cell x5
      have ypr : 0 < k → w6.cell? ⟨b, off + (k - 1) * 2, none⟩ = some (.int .i64 px) := fun h0 => F6.out.cell (hpr h0)
      clear h6 x5 hpr a0 a1
      go_cut [31] (fun sv wx => sv = .bool (ordC C k) ∧ Hid (Ext wr wx))
      case first =>
        rcases Nat.eq_zero_or_pos k with hk0 | hk0
        · have d0 : ((k : Int) == 0) = true := by rw [beq_iff_eq]; omega
          have d1 : decide ((0 : Int) < (k : Int)) = false := by simp; omega
          have d2 : decide (0 < k) = false := by simp; omega
          have HO : Hid (ordC C k = (x != 1)) := hide (by rw [HOD.out, Bool.eq_iff_iff]; simp; omega)
          clear ypr
          by_cases hx1 : x = 1
          · have d3 : (x != 1) = false := by simp [hx1]
            go_wp2_with fail
            go_region
            go_wp2_with fail
            go_meet
            exact ⟨by rw [HO.out, d3], hide (Ext.trans F6.out (by repeat' (first | (with_reducible exact Below.refl _ _) | (with_reducible assumption) | (with_reducible refine below_drewN ?_ _) | (with_reducible refine Below.drew ?_) | (with_reducible refine ext_alloc ?_ _) | (with_reducible refine Below.setCell ?_ ?_ _) | go_size)))⟩
          · have d3 : (x != 1) = true := by simp [hx1]
            go_wp2_with fail
            go_region
            go_wp2_with fail
            go_meet
            exact ⟨by rw [HO.out, d3], hide (Ext.trans F6.out (by repeat' (first | (with_reducible exact Below.refl _ _) | (with_reducible assumption) | (with_reducible refine below_drewN ?_ _) | (with_reducible refine Below.drew ?_) | (with_reducible refine ext_alloc ?_ _) | (with_reducible refine Below.setCell ?_ ?_ _) | go_size)))⟩
        · have d0 : ((k : Int) == 0) = false := by rw [beq_eq_false_iff_ne]; omega
          have d1 : decide ((0 : Int) < (k : Int)) = true := by simp; omega
          have d2 : decide (0 < k) = true := by simp; omega
          have p0 := ypr hk0
          have i2 : IntKind.i64.wrap ((k : Int) - 1) = (k : Int) - 1 := by rw [IntKind.wrap_i64]; omega
          have i3 : ((k : Int) - 1).toNat = k - 1 := by omega
          have i4 : (0 : Int) ≤ (k : Int) - 1 := by omega
          have i5 : (k : Int) - 1 < (cn : Int) := by omega
          have i6 : (1 : Int) ≤ (k : Int) := by omega
          have i7 : (k : Int) ≤ (cn : Int) := by omega
          have HO : Hid (ordC C k = decide (x ≤ px)) := hide (by rw [HOD.out, Bool.eq_iff_iff]; simp; omega)
          clear ypr
          go_wp2_with fail
          go_region
          go_wp2_with fail
          go_meet
          exact ⟨by rw [HO.out], hide (Ext.trans F6.out (by repeat' (first | (with_reducible exact Below.refl _ _) | (with_reducible assumption) | (with_reducible refine below_drewN ?_ _) | (with_reducible refine Below.drew ?_) | (with_reducible refine ext_alloc ?_ _) | (with_reducible refine Below.setCell ?_ ?_ _) | go_size)))⟩
      case rest =>
      obtain ⟨rfl, F7⟩ := hcut
      cases ho : ordC C k with
      | true =>
        have HE2 : Hid (chunksF n C P = 8) := hide (by
          have h1 := HE.out
          rw [ho, if_pos rfl] at h1
          have := HB.out (by omega)
          omega)
        go_wp2_with fail
        go_ret
        exact ⟨ret_int HE2.out.symm, Ext.trans HXW.out F7.out⟩
      | false =>
        have HE2 : Hid (chEl C k = 0) := hide (by rw [HE.out, ho, if_neg (by simp)])
        go_wp2_with fail
        exact ⟨⟨k + 1, by omega, by go_num, hide (HS.out HE2.out), hide (Ext.trans HX.out F7.out)⟩, by simp [intOf]; omega⟩
    · obtain rfl : k = cn := by omega
      have hz := HOK.out HA.out
      have HCG : Hid (chunksF n C P = if chForm C pn then 3 else if chSum C pn C.length ≠ n then 3 else firstF (plEl P) pn) := hide (by rw [HCF.out, if_neg (by omega)])
      have hk5 : k ≤ 5000 := by have := ch_len hz; have := HL.out; omega
      have x5 : wr.cell? ⟨w.heap.size, 5, none⟩ = some (.slice cA k cc) := (X1.out.ext HX.out).cell 5
      have x6 : wr.cell? ⟨w.heap.size, 6, none⟩ = some (.slice pA pn pc) := (X1.out.ext HX.out).cell 6
      have HZ := hide hz
      have HLC := HL.out
      clear hz hlt HBAD HOK HCF
      go_upto_region 9 with (fail)
      go_upto_region 10 with (fail)
      go_cut [83] (fun sv wx => sv = .bool (decide (chForm C pn)) ∧ Hid (Ext wr wx))
      case first =>
        have HFM : Hid (chForm C pn ↔ (0 < pn ∧ k = 0) ∨ (0 < k ∧ (pn : Int) < (C.getD (k - 1) (0, 0)).1)) := hide (by unfold chForm; rw [HL.out])
        rcases Nat.eq_zero_or_pos k with hk0 | hk0
        · have d1 : decide ((0 : Int) < (k : Int)) = false := by simp; omega
          have d2 : decide (0 < k) = false := by simp; omega
          have d0 : ((k : Int) == 0) = true := by rw [beq_iff_eq]; omega
          by_cases hp0 : 0 < pn
          · have d3 : decide ((0 : Int) < (pn : Int)) = true := by simp; omega
            have d4 : decide (0 < pn) = true := by simp; omega
            have HO : Hid (decide (chForm C pn) = true) := hide (by rw [decide_eq_true_iff, HFM.out]; exact .inl ⟨hp0, hk0⟩)
            go_region
            go_wp2_with fail
            go_meet
            exact ⟨by rw [HO.out], hide (by repeat' (first | (with_reducible exact Below.refl _ _) | (with_reducible assumption) | (with_reducible refine below_drewN ?_ _) | (with_reducible refine Below.drew ?_) | (with_reducible refine ext_alloc ?_ _) | (with_reducible refine Below.setCell ?_ ?_ _) | go_size))⟩
          · have d3 : decide ((0 : Int) < (pn : Int)) = false := by simp; omega
            have d4 : decide (0 < pn) = false := by simp; omega
            have HO : Hid (decide (chForm C pn) = false) := hide (by rw [decide_eq_false_iff_not, HFM.out]; omega)
            go_region
            go_wp2_with fail
            go_meet
            exact ⟨by rw [HO.out], hide (by repeat' (first | (with_reducible exact Below.refl _ _) | (with_reducible assumption) | (with_reducible refine below_drewN ?_ _) | (with_reducible refine Below.drew ?_) | (with_reducible refine ext_alloc ?_ _) | (with_reducible refine Below.setCell ?_ ?_ _) | go_size))⟩
        · obtain ⟨b, off, rfl, _⟩ := H.out.addr (by omega)
          have p0 := ((H.out.ext HXW.out).pair (k := k - 1) (by omega)).1
          have d0 : ((k : Int) == 0) = false := by rw [beq_eq_false_iff_ne]; omega
          have d1 : decide ((0 : Int) < (k : Int)) = true := by simp; omega
          have d2 : decide (0 < k) = true := by simp; omega
          have i2 : IntKind.i64.wrap ((k : Int) - 1) = (k : Int) - 1 := by rw [IntKind.wrap_i64]; omega
          have i3 : ((k : Int) - 1).toNat = k - 1 := by omega
          have i4 : (0 : Int) ≤ (k : Int) - 1 := by omega
          have i5 : (k : Int) - 1 < (k : Int) := by omega
          have i6 : (1 : Int) ≤ (k : Int) := by omega
          generalize (C.getD (k - 1) (0, 0)).1 = px at *
          have HO : Hid (decide (chForm C pn) = decide ((pn : Int) < px)) := hide (by rw [decide_eq_decide, HFM.out]; omega)
          by_cases hp0 : 0 < pn
          · have d3 : decide ((0 : Int) < (pn : Int)) = true := by simp; omega
            have d4 : decide (0 < pn) = true := by simp; omega
            go_region
            go_wp2_with fail
            go_meet
            exact ⟨by rw [HO.out], hide (by repeat' (first | (with_reducible exact Below.refl _ _) | (with_reducible assumption) | (with_reducible refine below_drewN ?_ _) | (with_reducible refine Below.drew ?_) | (with_reducible refine ext_alloc ?_ _) | (with_reducible refine Below.setCell ?_ ?_ _) | go_size))⟩
          · have d3 : decide ((0 : Int) < (pn : Int)) = false := by simp; omega
            have d4 : decide (0 < pn) = false := by simp; omega
            go_region
            go_wp2_with fail
            go_meet
            exact ⟨by rw [HO.out], hide (by repeat' (first | (with_reducible exact Below.refl _ _) | (with_reducible assumption) | (with_reducible refine below_drewN ?_ _) | (with_reducible refine Below.drew ?_) | (with_reducible refine ext_alloc ?_ _) | (with_reducible refine Below.setCell ?_ ?_ _) | go_size))⟩
      case rest =>
      obtain ⟨rfl, F7⟩ := hcut
      have X7 := hide (X1.out.ext (Ext.trans HX.out F7.out))
      have F8 := hide (Ext.trans HXW.out F7.out)
      clear x5 x6 HX F7 HXW
      cases hf : decide (chForm C pn) with
      | true =>
        have HE : Hid (chunksF n C P = 3) := hide (by rw [HCG.out, if_pos (of_decide_eq_true hf)])
        clear hf
        go_wp2_with fail
        go_ret
        exact ⟨ret_int HE.out.symm, F8.out⟩
      | false =>
        have hnf := of_decide_eq_false hf
        have HCG2 : Hid (chunksF n C P = if chSum C pn k ≠ n then 3 else firstF (plEl P) pn) := hide (by rw [HCG.out, if_neg hnf, HL.out])
        have HSB := hide (fun (j : Nat) (hj : j < k) => chSum_bd HZ.out hnf j (by rw [HL.out]; exact hj))
        clear hf hnf HCG
        have x5 : wc.cell? ⟨w.heap.size, 5, none⟩ = some (.slice cA k cc) := X7.out.cell 5
        go_upto_region 14 with (fail)
        go_loopw [8, 87] (fun rs ri wr => ∃ j : Nat, j ≤ k ∧ ri = .int .i64 j ∧ rs = .int .i64 (chSum C pn j) ∧ Hid (Ext wc wr)) (fun _ ri _ => k - (intOf ri).toNat)
        case atStart => exact ⟨0, by omega, rfl, rfl, hide (Ext.refl _)⟩
        case round =>
          obtain ⟨j, hj, rfl, rfl, HX⟩ := hrel
          have HXW := hide (Ext.trans F8.out HX.out)
          by_cases hjt : j < k
          · obtain ⟨b, off, rfl, _⟩ := H.out.addr (by omega)
            obtain ⟨a0, a1⟩ := (H.out.ext HXW.out).pair hjt
            have hnx : j + 1 < k → wr.cell? ⟨b, off + (j + 1) * 2, none⟩ = some (.int .i64 (C.getD (j + 1) (0, 0)).1) := fun h0 => ((H.out.ext HXW.out).pair h0).1
            have x5 : wr.cell? ⟨w.heap.size, 5, none⟩ = some (.slice (some ⟨b, off, none⟩) k cc) := (X7.out.ext HX.out).cell 5
            have x6 : wr.cell? ⟨w.heap.size, 6, none⟩ = some (.slice pA pn pc) := (X7.out.ext HX.out).cell 6
            obtain ⟨s1, s2, s3⟩ := HSB.out j hjt
            have hcx := (ch_ok HZ.out j (by omega)).1
            obtain ⟨S1, hS1⟩ : ∃ S1, S1 = chSum C pn (j + 1) := ⟨_, rfl⟩
            have hs : S1 = chSum C pn j + (nextC C pn j - (C.getD j (0, 0)).1) * (C.getD j (0, 0)).2 := hS1
            have HS1 := hide hS1
            have HNX : Hid (nextC C pn j = if j + 1 < k then (C.getD (j + 1) (0, 0)).1 else (pn : Int) + 1) := hide (by unfold nextC; rw [HL.out])
            clear hS1
            generalize chSum C pn j = S0 at *
            generalize nextC C pn j = nx at *
            generalize (C.getD j (0, 0)).1 = x at *
            generalize (C.getD j (0, 0)).2 = y at *
            generalize (C.getD (j + 1) (0, 0)).1 = qx at *
            have i1 : (j : Int) < (k : Int) := by omega
            have i0 : (0 : Int) ≤ (j : Int) := by omega
            have i8 : IntKind.i64.wrap ((j : Int) + 1) = (j : Int) + 1 := by rw [IntKind.wrap_i64]; omega
            have u0 : IntKind.i64.wrap ((pn : Int) + 1) = (pn : Int) + 1 := by rw [IntKind.wrap_i64]; omega
            have u1 : IntKind.i64.wrap (nx - x) = nx - x := by rw [IntKind.wrap_i64]; omega
            obtain ⟨q, hq⟩ : ∃ q, q = (nx - x) * y := ⟨_, rfl⟩
            rw [← hq] at s3 hs
            have u2 : IntKind.i64.wrap ((nx - x) * y) = q := by rw [← hq, IntKind.wrap_i64]; omega
            have u3 : IntKind.i64.wrap (S0 + q) = S1 := by rw [IntKind.wrap_i64]; omega
            clear s1 s2 s3 hcx hs hq
            by_cases hjn : j + 1 < k
            · have e1 : nx = qx := by rw [HNX.out, if_pos hjn]
              subst e1
              have n1 := hnx hjn
              have d0 : (j : Int) + 1 < (k : Int) := by omega
              have d1 : decide ((j : Int) + 1 < (k : Int)) = true := by simp; omega
              have d2 : decide (j + 1 < k) = true := by simp; omega
              have i3 : ((j : Int) + 1).toNat = j + 1 := by omega
              have i4 : (0 : Int) ≤ (j : Int) + 1 := by omega
              clear hnx hjn
              go_upto_region 16 with (fail)
              refine gen_wpC fun w6 h6 => ?_
              have F6 : Hid (Ext wr w6) := hide (by rw [h6]; exact Ext.alloc _ _)
              have y0 : w6.cell? ⟨wr.heap.size, 0, none⟩ = some (.int .i64 x) := by rw [h6]; exact (Blk.new wr _ _).cell 0
              have y1 : w6.cell? ⟨wr.heap.size, 1, none⟩ = some (.int .i64 y) := by rw [h6]; exact (Blk.new wr _ _).cell 1
              have y5 := F6.out.cell x5
              have y6 := F6.out.cell x6
              have n2 := F6.out.cell n1
              clear h6 a0 a1 x5 x6 n1
              go_wp2_with fail
              exact ⟨⟨j + 1, by omega, by go_num, by rw [HS1.out], hide (Ext.trans HX.out F6.out)⟩, by simp [intOf]; omega⟩
            · have e1 : nx = (pn : Int) + 1 := by rw [HNX.out, if_neg hjn]
              subst e1
              have d0 : ¬ (j : Int) + 1 < (k : Int) := by omega
              have d1 : decide ((j : Int) + 1 < (k : Int)) = false := by simp; omega
              have d2 : decide (j + 1 < k) = false := by simp; omega
              clear hnx hjn
              go_upto_region 16 with (fail)
              refine gen_wpC fun w6 h6 => ?_
              have F6 : Hid (Ext wr w6) := hide (by rw [h6]; exact Ext.alloc _ _)
              have y0 : w6.cell? ⟨wr.heap.size, 0, none⟩ = some (.int .i64 x) := by rw [h6]; exact (Blk.new wr _ _).cell 0
              have y1 : w6.cell? ⟨wr.heap.size, 1, none⟩ = some (.int .i64 y) := by rw [h6]; exact (Blk.new wr _ _).cell 1
              have y5 := F6.out.cell x5
              have y6 := F6.out.cell x6
              clear h6 a0 a1 x5 x6
              go_wp2_with fail
              exact ⟨⟨j + 1, by omega, by go_num, by rw [HS1.out], hide (Ext.trans HX.out F6.out)⟩, by simp [intOf]; omega⟩
          · obtain rfl : j = k := by omega
            have x6 : wr.cell? ⟨w.heap.size, 6, none⟩ = some (.slice pA pn pc) := (X7.out.ext HX.out).cell 6
            clear hjt HSB
            generalize chSum C pn j = S at *
            by_cases hsn : S = n
            · have HCH : Hid (chunksF n C P = firstF (plEl P) pn) := hide (by rw [HCG2.out, if_neg (by omega)])
              have d0 : (S != n) = false := by simp [hsn]
              clear hsn HCG2
              go_upto_region 24 with (fail)
              refine gen_wpC fun w9 h9 => ?_
              have F9 : Hid (Ext w w9) := hide (by rw [h9]; exact HXW.out)
              clear h9 x6
              go_loopw [123] (fun ri wr => ∃ i : Nat, i ≤ pn ∧ ri = .int .i64 i ∧ Hid (∀ m, m < i → plEl P m = 0) ∧ Hid (Ext w9 wr)) (fun ri _ => pn - (intOf ri).toNat)
              case atStart => exact ⟨0, by omega, rfl, hide (fun j hj => by omega), hide (Ext.refl _)⟩
              case round =>
                obtain ⟨i, hi, rfl, HA, HY⟩ := hrel
                have HYW := hide (Ext.trans F9.out HY.out)
                by_cases hit : i < pn
                · obtain ⟨b, off, rfl, _⟩ := HP.out.addr (by omega)
                  have a0 := (HP.out.ext HYW.out).num hit
                  have hel : plEl P i = if P.getD i 0 < 0 ∨ 1000000 < P.getD i 0 then 1 else 0 := rfl
                  have HS : Hid (plEl P i = 0 → ∀ m, m < i + 1 → plEl P m = 0) := hide (fun h0 m hm => by
                    rcases Nat.lt_succ_iff_lt_or_eq.1 hm with h | h
                    · exact HA.out m h
                    · rw [h]; exact h0)
                  have HB := hide (HPB.out i hit HA.out)
                  generalize P.getD i 0 = x at *
                  have i1 : (i : Int) < (pn : Int) := by omega
                  have i0 : (0 : Int) ≤ (i : Int) := by omega
                  have i8 : IntKind.i64.wrap ((i : Int) + 1) = (i : Int) + 1 := by rw [IntKind.wrap_i64]; omega
                  by_cases hx : x < 0 ∨ 1000000 < x
                  · rw [if_pos hx] at hel
                    have HE : Hid (chunksF n C P = 1) := hide (by have := HB.out (by omega); rw [HCH.out]; omega)
                    clear hel
                    go_wp2_with ((go_at_call 15; with_reducible refine (out_yes hx _).mono ?_); rintro e w' ⟨rfl, rfl⟩)
                    go_ret
                    exact ⟨ret_int HE.out.symm, HYW.out⟩
                  · rw [if_neg hx] at hel
                    have hx2 : 0 ≤ x ∧ x ≤ 1000000 := by omega
                    have HE := hide (HS.out hel)
                    clear hel hx
                    go_wp2_with ((go_at_call 15; with_reducible refine (out_no hx2 _).mono ?_); rintro e w' ⟨rfl, rfl⟩)
                    exact ⟨⟨i + 1, by omega, by go_num, HE, HY⟩, by simp [intOf]; omega⟩
                · obtain rfl : i = pn := by omega
                  have HE : Hid (chunksF n C P = 0) := hide (by rw [HCH.out]; exact firstF_zero HA.out)
                  clear hit
                  go_wp2_with fail
                  go_ret
                  exact ⟨ret_int HE.out.symm, HYW.out⟩
            · have HE : Hid (chunksF n C P = 3) := hide (by rw [HCG2.out, if_pos hsn])
              have d0 : (S != n) = true := by simp [hsn]
              clear hsn HCG2
              go_wp2_with fail
              go_ret
              exact ⟨ret_int HE.out.symm, HXW.out⟩
end Go.Proofs.Ytlonhkjplijlcaa
namespace Go.Proofs.Ytlonhkjplijlcaa
/-- Where one reads, and whether something was wrong there. -/
structure Rd where
  pos : Nat
  bad : Bool
/-- A number of so many bytes. -/
def rdN (b : List UInt8) (k : Nat) (s : Rd) : Nat × Rd := if s.bad = true ∨ b.length - s.pos < k then (0, ⟨s.pos, true⟩) else (numB (cutB b s.pos (s.pos + k)), ⟨s.pos + k, false⟩)
/-- A byte that is at most so great. -/
def rdF (b : List UInt8) (most : Nat) (s : Rd) : Nat × Rd := if (rdN b 1 s).2.bad = false ∧ most < (rdN b 1 s).1 then ((rdN b 1 s).1, ⟨s.pos, true⟩) else rdN b 1 s
/-- Nothing may be left. -/
def rdE (b : List UInt8) (s : Rd) : Rd := if s.bad = false ∧ s.pos < b.length then ⟨s.pos, true⟩ else s
theorem rdN_bad {b : List UInt8} {k : Nat} {s : Rd} (h : s.bad = true ∨ b.length - s.pos < k) : rdN b k s = (0, ⟨s.pos, true⟩) := by unfold rdN; rw [if_pos h]
theorem rdN_ok {b : List UInt8} {k : Nat} {s : Rd} (h : s.bad = false) (h2 : k ≤ b.length - s.pos) : rdN b k s = (numB (cutB b s.pos (s.pos + k)), ⟨s.pos + k, false⟩) := by
  unfold rdN; rw [if_neg (by rw [h]; simp; omega)]
theorem rdN_pos {b : List UInt8} {k : Nat} {s : Rd} (h : s.pos ≤ b.length) : (rdN b k s).2.pos ≤ b.length := by
  unfold rdN
  split
  · exact h
  · rename_i hc
    have : ¬ b.length - s.pos < k := fun h1 => hc (.inr h1)
    show s.pos + k ≤ b.length
    omega
theorem cutB_len {b : List UInt8} {i k : Nat} (h : i + k ≤ b.length) : (cutB b i (i + k)).length = k := by
  unfold cutB; rw [List.length_take, List.length_drop]; omega
theorem rdN_lt {b : List UInt8} {k : Nat} (s : Rd) (hk : 0 < k) : (rdN b k s).1 < 256 ^ k := by
  unfold rdN
  split
  · exact Nat.pow_pos (by omega)
  · rename_i hc
    have h1 : ¬ b.length - s.pos < k := fun h1 => hc (.inr h1)
    exact numB_lt k _ (cutB_len (by omega))
theorem rdF_lt {b : List UInt8} {most : Nat} (s : Rd) : (rdF b most s).1 < 256 := by
  have := rdN_lt (b := b) (k := 1) s (by omega)
  unfold rdF
  split
  · simpa using this
  · simpa using this
theorem rdF_pos {b : List UInt8} {most : Nat} {s : Rd} (h : s.pos ≤ b.length) : (rdF b most s).2.pos ≤ b.length := by
  unfold rdF
  split
  · exact h
  · exact rdN_pos h
theorem rdF_le {b : List UInt8} {most : Nat} {s : Rd} (h : (rdF b most s).2.bad = false) : (rdF b most s).1 ≤ most := by
  unfold rdF at h ⊢
  split at h
  · cases h
  · rename_i hc
    rw [if_neg hc]
    exact Nat.le_of_not_lt fun h1 => hc ⟨h, h1⟩
theorem rdN_was {b : List UInt8} {k : Nat} {s : Rd} (h : (rdN b k s).2.bad = false) : s.bad = false := by
  unfold rdN at h
  split at h
  · cases h
  · rename_i hc
    cases hb : s.bad with
    | false => rfl
    | true => exact absurd (.inl hb) hc
theorem rdN_stays {b : List UInt8} {k : Nat} {s : Rd} (h : s.bad = true) : rdN b k s = (0, s) := by
  rw [rdN_bad (.inl h)]; cases s; simp at h; subst h; rfl
theorem rdF_stays {b : List UInt8} {most : Nat} {s : Rd} (h : s.bad = true) : rdF b most s = (0, s) := by
  unfold rdF; rw [rdN_stays h, if_neg (by rw [h]; simp)]
theorem rdF_was {b : List UInt8} {most : Nat} {s : Rd} (h : (rdF b most s).2.bad = false) : s.bad = false := by
  cases hb : s.bad with
  | false => rfl
  | true => rw [rdF_stays hb, hb] at h; cases h
end Go.Proofs.Ytlonhkjplijlcaa
