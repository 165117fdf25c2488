/- Walks: CheckFilm (both). Conditions as stated. -/
import Derived.Test.YtfelgolfebhmkaaDoorMtm21
namespace Go.Proofs.YtfelgolfebhmkaaDoor
open Go.RowKit
theorem sum_pos {l : List Int} (h0 : 0 < l.length) (h2 : l.length ≤ 200) (h : ∀ i, i < l.length → 1 ≤ l.getD i 0 ∧ l.getD i 0 ≤ 1000000000) : 1 ≤ l.sum ∧ l.sum ≤ 200000000000 := by
  have hb := sumI_bound (l := l) (fun i hi => by have := h i hi; omega) l.length (Nat.le_refl _)
  have h1 := sumI_bound (l := l) (fun i hi => by have := h i hi; omega) (l.length - 1) (by omega)
  have hs := sumI_succ (l := l) (k := l.length - 1) (by omega)
  have hx := h (l.length - 1) (by omega)
  rw [show l.length - 1 + 1 = l.length by omega] at hs
  rw [sumI_all rfl] at hb hs
  omega
section
variable {lA : Option Addr} {ln lc : Nat} {sA : Option Addr} {sn sc : Nat} {qA : Option Addr} {qn qc : Nat} {L : List Int} {S : List (List Int)} {Q : List Int} {w : World}
theorem filmF_1 (h : L.length = 0) : filmF L S Q = 9 := by unfold filmF; rw [if_pos h]
theorem filmF_2 (h0 : L.length ≠ 0) (h : 200 < L.length) : filmF L S Q = 2 := by unfold filmF; rw [if_neg h0, if_pos h]
theorem filmF_3 (h0 : L.length ≠ 0) (h1 : ¬ 200 < L.length) (h : rngB 1 1000000000 L = true) : filmF L S Q = 1 := by unfold filmF; rw [if_neg h0, if_neg h1, if_pos h]
theorem filmF_4 (h0 : L.length ≠ 0) (h1 : ¬ 200 < L.length) (h : rngB 1 1000000000 L = false) : filmF L S Q = if S.length = 0 then 9 else if 20 < S.length then 2 else if Q.length ≠ S.length then 3 else firstF (szEl L S Q) S.length := by
  unfold filmF; rw [if_neg h0, if_neg h1, if_neg (by simp [h])]
set_option maxRecDepth 100000 in
set_option maxHeartbeats 8000000 in
theorem keyFilm_any (h : Shw w lA ln lc sA sn sc qA qn qc L S Q) :
    Calls Tryd.prog 9 #[shV lA ln lc sA sn sc qA qn qc] w fun e w' => e = .returned (.int .i64 (filmF L S Q)) ∧ Ext w w' := by
  have hl := h.longs.len
  have hs := h.sizes.len
  have hq := h.qual.len
  have hbl := h.longs.bound
  have hbq := h.qual.bound
  have hbs := h.sizes.bound
  have EA := hide (Ext.alloc w (shO lA ln lc sA sn sc qA qn qc))
  have HCL := hide (fun (W : World) hW => sh_cells w lA ln lc sA sn sc qA qn qc (W := W) hW)
  have HH := hide h
  clear h
  by_cases c1 : ln = 0
  · have HF := hide (filmF_1 (L := L) (S := S) (Q := Q) (by omega))
    have e0 : ((ln : Int) == 0) = true := by simp [c1]
    clear hl hs hq c1
    go_enter Tryd.func9, Tryd.ntmps9
    go_wp2_with fail
    go_ret
    exact ⟨ret_int HF.out.symm, (by repeat' (first | (with_reducible first | exact Below.refl _ _ | assumption | refine below_drewN ?_ _ | refine Below.drew ?_ | refine ext_alloc ?_ _ | refine Below.setCell ?_ ?_ _) | go_size))⟩
  have e0 : ((ln : Int) == 0) = false := by simp; omega
  by_cases c2 : 200 < ln
  · have HF := hide (filmF_2 (L := L) (S := S) (Q := Q) (by omega) (by omega))
    clear hl hs hq c1
    go_enter Tryd.func9, Tryd.ntmps9
    go_wp2_with fail
    go_ret
    exact ⟨ret_int HF.out.symm, (by repeat' (first | (with_reducible first | exact Below.refl _ _ | assumption | refine below_drewN ?_ _ | refine Below.drew ?_ | refine ext_alloc ?_ _ | refine Below.setCell ?_ ?_ _) | go_size))⟩
  have HC3 := hide (fun (W : World) (hW : Ext w W) => lng_has (HH.out.longs.ext hW))
  by_cases c3 : rngB 1 1000000000 L = true
  · have HF := hide (filmF_3 (L := L) (S := S) (Q := Q) (by omega) (by omega) c3)
    rw [c3] at HC3
    clear hl hs hq c1 c3
    go_enter Tryd.func9, Tryd.ntmps9
    go_wp2_with fail
    refine (HC3.out _ (by repeat' (first | (with_reducible first | exact Below.refl _ _ | assumption | refine below_drewN ?_ _ | refine Below.drew ?_ | refine ext_alloc ?_ _ | refine Below.setCell ?_ ?_ _) | go_size))).mono ?_
    rintro e w' ⟨rfl, rfl⟩
    go_wp2_with fail
    go_ret
    exact ⟨ret_int HF.out.symm, (by repeat' (first | (with_reducible first | exact Below.refl _ _ | assumption | refine below_drewN ?_ _ | refine Below.drew ?_ | refine ext_alloc ?_ _ | refine Below.setCell ?_ ?_ _) | go_size))⟩
  have c3' : rngB 1 1000000000 L = false := by simpa using c3
  have hF := filmF_4 (L := L) (S := S) (Q := Q) (by omega) (by omega) c3'
  rw [hs, hq] at hF
  rw [c3'] at HC3
  have hln : ln ≤ 200 := by omega
  have HL := hide hl; have HS := hide hs; have HQ := hide hq
  clear c1 c2 c3 c3' hl hs hq
  by_cases c4 : sn = 0
  · have e4 : ((sn : Int) == 0) = true := by simp [c4]
    rw [if_pos c4] at hF
    have HF := hide hF
    clear hF c4
    go_enter Tryd.func9, Tryd.ntmps9
    go_wp2_with fail
    refine (HC3.out _ (by repeat' (first | (with_reducible first | exact Below.refl _ _ | assumption | refine below_drewN ?_ _ | refine Below.drew ?_ | refine ext_alloc ?_ _ | refine Below.setCell ?_ ?_ _) | go_size))).mono ?_
    rintro e w' ⟨rfl, rfl⟩
    go_wp2_with fail
    go_ret
    exact ⟨ret_int HF.out.symm, (by repeat' (first | (with_reducible first | exact Below.refl _ _ | assumption | refine below_drewN ?_ _ | refine Below.drew ?_ | refine ext_alloc ?_ _ | refine Below.setCell ?_ ?_ _) | go_size))⟩
  have e4 : ((sn : Int) == 0) = false := by simp; omega
  rw [if_neg c4] at hF
  by_cases c5 : 20 < sn
  · rw [if_pos c5] at hF
    have HF := hide hF
    clear hF c4
    go_enter Tryd.func9, Tryd.ntmps9
    go_wp2_with fail
    refine (HC3.out _ (by repeat' (first | (with_reducible first | exact Below.refl _ _ | assumption | refine below_drewN ?_ _ | refine Below.drew ?_ | refine ext_alloc ?_ _ | refine Below.setCell ?_ ?_ _) | go_size))).mono ?_
    rintro e w' ⟨rfl, rfl⟩
    go_wp2_with fail
    go_ret
    exact ⟨ret_int HF.out.symm, (by repeat' (first | (with_reducible first | exact Below.refl _ _ | assumption | refine below_drewN ?_ _ | refine Below.drew ?_ | refine ext_alloc ?_ _ | refine Below.setCell ?_ ?_ _) | go_size))⟩
  rw [if_neg c5] at hF
  by_cases c6 : qn = sn
  rotate_left
  · have e6 : ((qn : Int) != (sn : Int)) = true := by simp; omega
    rw [if_pos c6] at hF
    have HF := hide hF
    clear hF c4 c6
    go_enter Tryd.func9, Tryd.ntmps9
    go_wp2_with fail
    refine (HC3.out _ (by repeat' (first | (with_reducible first | exact Below.refl _ _ | assumption | refine below_drewN ?_ _ | refine Below.drew ?_ | refine ext_alloc ?_ _ | refine Below.setCell ?_ ?_ _) | go_size))).mono ?_
    rintro e w' ⟨rfl, rfl⟩
    go_wp2_with fail
    go_ret
    exact ⟨ret_int HF.out.symm, (by repeat' (first | (with_reducible first | exact Below.refl _ _ | assumption | refine below_drewN ?_ _ | refine Below.drew ?_ | refine ext_alloc ?_ _ | refine Below.setCell ?_ ?_ _) | go_size))⟩
  have e6 : ((qn : Int) != (sn : Int)) = false := by simp [c6]
  rw [if_neg (by omega)] at hF
  obtain ⟨bs, os, rfl⟩ := HH.out.sizes.addr (by omega)
  obtain ⟨bq, oq, rfl, _⟩ := HH.out.qual.addr (by omega)
  have HF := hide hF
  have hsn : sn ≤ 20 := by omega
  have C6 := hide c6
  clear hF c4 c5 c6
  go_enter Tryd.func9, Tryd.ntmps9
  go_wp2_with fail
  refine (HC3.out _ (by repeat' (first | (with_reducible first | exact Below.refl _ _ | assumption | refine below_drewN ?_ _ | refine Below.drew ?_ | refine ext_alloc ?_ _ | refine Below.setCell ?_ ?_ _) | go_size))).mono ?_
  rintro e w' ⟨rfl, rfl⟩
  go_wp2_with fail
  go_loopw [40] (fun ri wr => ∃ k : Nat, k ≤ sn ∧ ri = .int .i64 k ∧ Hid (∀ j, j < k → szEl L S Q j = 0) ∧ Hid (Ext (w.alloc (shO lA ln lc (some ⟨bs, os, none⟩) sn sc (some ⟨bq, oq, none⟩) qn qc)) wr)) (fun ri _ => sn - (intOf ri).toNat)
  case atStart => exact ⟨0, by omega, rfl, hide (fun j hj => by omega), hide (Ext.refl _)⟩
  case round =>
    obtain ⟨k, hk, rfl, HZ, HX⟩ := hrel
    have HW := hide (Ext.trans EA.out HX.out)
    by_cases hlt : k < sn
    · obtain ⟨c0, c1, c2⟩ := HCL.out wr HX.out
      obtain ⟨rA, rn, rc, rcell, rat⟩ := (HH.out.ext HW.out).sizes.row hlt
      have hrb := rat.bound
      have HRL := hide rat.len
      have HR := hide rat
      have qc0 := (HH.out.ext HW.out).qual.num (k := k) (by have := C6.out; omega)
      have HQP := hide (fun (h0 : 0 < k) => (HH.out.ext HW.out).qual.num (k := k - 1) (by have := C6.out; omega))
      have HSP := hide (fun (h0 : 0 < k) => (HH.out.ext HW.out).sizes.row (k := k - 1) (by omega))
      have HSZ := hide (fun (h0 : 0 < k) => szEl_ok (HZ.out (k - 1) (by omega)))
      have hsz : szEl L S Q k = if (S.getD k []).length ≠ L.length then 3 else if rngB 1 1000000000 (S.getD k []) = true then 1 else if Q.getD k 0 < 0 ∨ 1000000 < Q.getD k 0 then 1
        else if 0 < k ∧ (Q.getD k 0 < Q.getD (k - 1) 0 ∨ (S.getD k []).sum < (S.getD (k - 1) []).sum) then 8 else 0 := rfl
      rw [HRL.out, HL.out] at hsz
      have HY : Hid (szEl L S Q k ≠ 0 → filmF L S Q = szEl L S Q k) := hide (fun hz => by rw [HF.out, firstF_at HZ.out hz hlt])
      have HN : Hid (szEl L S Q k = 0 → ∀ j, j < k + 1 → szEl L S Q j = 0) := hide (fun hz j hj => by
        rcases Nat.lt_succ_iff_lt_or_eq.1 hj with h | h
        · exact HZ.out j h
        · rw [h]; exact hz)
      generalize szEl L S Q k = z at *
      generalize S.getD k [] = r at *
      clear rat
      have i0 : (0 : Int) ≤ (k : Int) := by omega
      have i1 : (k : Int) < (sn : Int) := by omega
      have i2 : (k : Int) < (qn : Int) := by have := C6.out; omega
      by_cases hA : rn = ln
      rotate_left
      · have eA : ((rn : Int) != (ln : Int)) = true := by simp; omega
        rw [if_pos hA] at hsz
        have HF2 : Hid (filmF L S Q = 3) := hide (by rw [HY.out (by omega), hsz])
        clear hsz hA qc0
        go_wp2_with fail
        go_ret
        exact ⟨ret_int HF2.out.symm, HW.out⟩
      have eA : ((rn : Int) != (ln : Int)) = false := by simp [hA]
      have hrn : rn ≤ 200 := by omega
      rw [if_neg (by omega)] at hsz
      clear hA
      have HCR := hide (fun (W : World) (hW : Ext wr W) => siz_has (HR.out.ext hW))
      by_cases hrz : rngB 1 1000000000 r = true
      · rw [if_pos hrz] at hsz
        have HF2 : Hid (filmF L S Q = 1) := hide (by rw [HY.out (by omega), hsz])
        rw [hrz] at HCR
        clear hsz hrz
        go_wp2_with fail
        refine (HCR.out _ (by repeat' (first | (with_reducible first | exact Below.refl _ _ | assumption | refine below_drewN ?_ _ | refine Below.drew ?_ | refine ext_alloc ?_ _ | refine Below.setCell ?_ ?_ _) | go_size))).mono ?_
        rintro e w' ⟨rfl, rfl⟩
        go_wp2_with (first | ((go_at_call 24; with_reducible refine (out_no ?_ _).mono ?_); (focus omega); rintro e w' ⟨rfl, rfl⟩) | ((go_at_call 24; with_reducible refine (out_yes ?_ _).mono ?_); (focus omega); rintro e w' ⟨rfl, rfl⟩))
        go_ret
        exact ⟨ret_int HF2.out.symm, HW.out⟩
      have hrz' : rngB 1 1000000000 r = false := by simpa using hrz
      rw [if_neg hrz] at hsz
      rw [hrz'] at HCR
      have HRZ := hide hrz'
      clear hrz hrz'
      generalize Q.getD k 0 = q0 at *
      by_cases hqb : q0 < 0 ∨ 1000000 < q0
      · rw [if_pos hqb] at hsz
        have HF2 : Hid (filmF L S Q = 1) := hide (by rw [HY.out (by omega), hsz])
        clear hsz
        go_wp2_with fail
        refine (HCR.out _ (by repeat' (first | (with_reducible first | exact Below.refl _ _ | assumption | refine below_drewN ?_ _ | refine Below.drew ?_ | refine ext_alloc ?_ _ | refine Below.setCell ?_ ?_ _) | go_size))).mono ?_
        rintro e w' ⟨rfl, rfl⟩
        go_wp2_with (first | ((go_at_call 24; with_reducible refine (out_no ?_ _).mono ?_); (focus omega); rintro e w' ⟨rfl, rfl⟩) | ((go_at_call 24; with_reducible refine (out_yes ?_ _).mono ?_); (focus omega); rintro e w' ⟨rfl, rfl⟩))
        go_ret
        exact ⟨ret_int HF2.out.symm, HW.out⟩
      have hqb' : 0 ≤ q0 ∧ q0 ≤ 1000000 := by omega
      rw [if_neg hqb] at hsz
      clear hqb
      rcases Nat.eq_zero_or_pos k with hk0 | hk0
      · rw [if_neg (by omega)] at hsz
        have HN2 := hide (HN.out hsz)
        have g0 : decide ((0 : Int) < (k : Int)) = false := by simp; omega
        have g00 : decide (0 < k) = false := by simp; omega
        clear hsz hk0
        go_wp2_with fail
        refine (HCR.out _ (by repeat' (first | (with_reducible first | exact Below.refl _ _ | assumption | refine below_drewN ?_ _ | refine Below.drew ?_ | refine ext_alloc ?_ _ | refine Below.setCell ?_ ?_ _) | go_size))).mono ?_
        rintro e w' ⟨rfl, rfl⟩
        go_wp2_with (first | ((go_at_call 24; with_reducible refine (out_no ?_ _).mono ?_); (focus omega); rintro e w' ⟨rfl, rfl⟩) | ((go_at_call 24; with_reducible refine (out_yes ?_ _).mono ?_); (focus omega); rintro e w' ⟨rfl, rfl⟩))
        go_quiet (fail)
        go_wp2_with fail
        go_roundw
        case rel => exact ⟨k + 1, by omega, by go_num, HN2, hide (Ext.trans HX.out (by repeat' (first | (with_reducible first | exact Below.refl _ _ | assumption | refine below_drewN ?_ _ | refine Below.drew ?_ | refine ext_alloc ?_ _ | refine Below.setCell ?_ ?_ _) | go_size)))⟩
        case measure => simp [intOf]; omega
      have g0 : decide ((0 : Int) < (k : Int)) = true := by simp; omega
      have j2 : IntKind.i64.wrap ((k : Int) - 1) = (k : Int) - 1 := by rw [IntKind.wrap_i64]; omega
      have j3 : ((k : Int) - 1).toNat = k - 1 := by omega
      have j4 : 0 ≤ (k : Int) - 1 := by omega
      have j5 : (k : Int) - 1 < (sn : Int) := by omega
      have j6 : (k : Int) - 1 < (qn : Int) := by have := C6.out; omega
      have j7 : 1 ≤ (k : Int) := by omega
      have qc1 := HQP.out hk0
      obtain ⟨pA, pn, pc, pcell, pat⟩ := HSP.out hk0
      have HSZ2 := hide (HSZ.out hk0)
      generalize Q.getD (k - 1) 0 = q1 at *
      by_cases hq2 : q0 < q1
      · rw [if_pos ⟨hk0, .inl hq2⟩] at hsz
        have HF2 : Hid (filmF L S Q = 8) := hide (by rw [HY.out (by omega), hsz])
        have g1 : decide (q0 < q1) = true := by simpa using hq2
        clear hsz
        go_wp2_with fail
        refine (HCR.out _ (by repeat' (first | (with_reducible first | exact Below.refl _ _ | assumption | refine below_drewN ?_ _ | refine Below.drew ?_ | refine ext_alloc ?_ _ | refine Below.setCell ?_ ?_ _) | go_size))).mono ?_
        rintro e w' ⟨rfl, rfl⟩
        go_wp2_with (first | ((go_at_call 24; with_reducible refine (out_no ?_ _).mono ?_); (focus omega); rintro e w' ⟨rfl, rfl⟩) | ((go_at_call 24; with_reducible refine (out_yes ?_ _).mono ?_); (focus omega); rintro e w' ⟨rfl, rfl⟩))
        go_quiet (fail)
        go_wp2_with fail
        go_ret
        exact ⟨ret_int HF2.out.symm, Ext.trans HW.out (by repeat' (first | (with_reducible first | exact Below.refl _ _ | assumption | refine below_drewN ?_ _ | refine Below.drew ?_ | refine ext_alloc ?_ _ | refine Below.setCell ?_ ?_ _) | go_size))⟩
      have g1 : decide (q0 < q1) = false := by simpa using hq2
      have hpn : pn ≤ 200 := by have h1 := pat.len; have h2 := HSZ2.out.1; have := HL.out; omega
      have HCA := hide (fun (n : Nat) => keySum_any (HR.out.ext (Ext.drewN wr n)) hrn (pos_bd HRZ.out))
      have HCB := hide (fun (n : Nat) => keySum_any (pat.ext (Ext.drewN wr n)) hpn (pos_bd HSZ2.out.2.1))
      generalize r.sum = s1 at *
      generalize (S.getD (k - 1) []).sum = s2 at *
      clear pat
      by_cases hs : s1 < s2
      · rw [if_pos ⟨hk0, .inr hs⟩] at hsz
        have HF2 : Hid (filmF L S Q = 8) := hide (by rw [HY.out (by omega), hsz])
        have g2 : decide (s1 < s2) = true := by simpa using hs
        clear hsz
        go_wp2_with fail
        refine (HCR.out _ (by repeat' (first | (with_reducible first | exact Below.refl _ _ | assumption | refine below_drewN ?_ _ | refine Below.drew ?_ | refine ext_alloc ?_ _ | refine Below.setCell ?_ ?_ _) | go_size))).mono ?_
        rintro e w' ⟨rfl, rfl⟩
        go_wp2_with (first | ((go_at_call 24; with_reducible refine (out_no ?_ _).mono ?_); (focus omega); rintro e w' ⟨rfl, rfl⟩) | ((go_at_call 24; with_reducible refine (out_yes ?_ _).mono ?_); (focus omega); rintro e w' ⟨rfl, rfl⟩))
        go_quiet ((go_at_call 26; (first | with_reducible exact quiet_left (HCA.out _) | with_reducible exact quiet_left (HCB.out _))))
        go_wp2_with fail
        go_ret
        exact ⟨ret_int HF2.out.symm, Ext.trans HW.out (by repeat' (first | (with_reducible first | exact Below.refl _ _ | assumption | refine below_drewN ?_ _ | refine Below.drew ?_ | refine ext_alloc ?_ _ | refine Below.setCell ?_ ?_ _) | go_size))⟩
      · rw [if_neg (by omega)] at hsz
        have HN2 := hide (HN.out hsz)
        have g2 : decide (s1 < s2) = false := by simpa using hs
        clear hsz
        go_wp2_with fail
        refine (HCR.out _ (by repeat' (first | (with_reducible first | exact Below.refl _ _ | assumption | refine below_drewN ?_ _ | refine Below.drew ?_ | refine ext_alloc ?_ _ | refine Below.setCell ?_ ?_ _) | go_size))).mono ?_
        rintro e w' ⟨rfl, rfl⟩
        go_wp2_with (first | ((go_at_call 24; with_reducible refine (out_no ?_ _).mono ?_); (focus omega); rintro e w' ⟨rfl, rfl⟩) | ((go_at_call 24; with_reducible refine (out_yes ?_ _).mono ?_); (focus omega); rintro e w' ⟨rfl, rfl⟩))
        go_quiet ((go_at_call 26; (first | with_reducible exact quiet_left (HCA.out _) | with_reducible exact quiet_left (HCB.out _))))
        go_wp2_with fail
        go_roundw
        case rel => exact ⟨k + 1, by omega, by go_num, HN2, hide (Ext.trans HX.out (by repeat' (first | (with_reducible first | exact Below.refl _ _ | assumption | refine below_drewN ?_ _ | refine Below.drew ?_ | refine ext_alloc ?_ _ | refine Below.setCell ?_ ?_ _) | go_size)))⟩
        case measure => simp [intOf]; omega
    · have HF2 : Hid (filmF L S Q = 0) := hide (by rw [HF.out, firstF_zero (fun j hj => HZ.out j (by omega))])
      go_wp2_with fail
      go_ret
      exact ⟨ret_int HF2.out.symm, HW.out⟩
end
end Go.Proofs.YtfelgolfebhmkaaDoor
