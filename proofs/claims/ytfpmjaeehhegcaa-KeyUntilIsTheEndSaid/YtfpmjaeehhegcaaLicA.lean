/- Walks: licenceFault of the program, checkOutputs and checkLicence of the reference. Conditions: strings are no longer than strings can be. -/
import Derived.Test.YtfpmjaeehhegcaaSeat
import Derived.Test.YtfpmjaeehhegcaaUntP
import Derived.Deep.RegionHeld3
namespace Go.Proofs.Ytfpmjaeehhegcaa
open Go.RowKit

/-- Outputs in memory. -/
abbrev OutV := ByteArray × Int
abbrev eO (x : OutV) : List Value := [.string x.1, .int .i64 x.2]
abbrev d0O : OutV := (ByteArray.empty, 0)
def okO (x : OutV) : Prop := x.1.size ≤ maxLen
def outEl (O : List OutV) (i : Nat) : Int :=
  if nameB (O.getD i d0O).1 = false then 5
  else if 0 < i ∧ sLe (O.getD i d0O).1 (O.getD (i - 1) d0O).1 = true then 8
  else if (O.getD i d0O).2 < 1 ∨ 10000 < (O.getD i d0O).2 then 1 else 0
def outsF (O : List OutV) : Int := if O.length = 0 then 9 else if 10 < O.length then 2 else firstF (outEl O) O.length
def licF (pf pt f t g : Int) (O : List OutV) : Int :=
  if pf < 0 ∨ 1000000000 < pf then 1 else if pt ≤ pf then 8 else if 1000000001 < pt ∨ (f < 0 ∨ 1000000000000000 < f) ∨ (t < 0 ∨ 1000000000000000 < t) then 1
  else if t ≤ f then 8 else if g < 0 ∨ 1000000000000000 < g then 1 else outsF O

set_option maxRecDepth 100000 in
set_option maxHeartbeats 4000000 in
theorem refOuts_any {A : Option Addr} {n c : Nat} {O : List OutV} {w : World} (h : At w 2 eO A n c O) (hg : ∀ x ∈ O, okO x) :
    Calls Try.prog 56 #[.slice A n c] w fun e w' => e = .returned (.int .i64 (outsF O)) ∧ Ext w w' := by
  have hb := h.bound
  have HLN := hide h.len
  have H := hide h
  have HG := hide hg
  clear h hg
  by_cases h0 : n = 0
  · have HF : Hid (outsF O = 9) := hide (by unfold outsF; rw [if_pos (by have := HLN.out; omega)])
    subst h0
    go_enter Try.func56, Try.ntmps56
    go_wp2_with (fail)
    go_ret
    exact ⟨ret_int HF.out.symm, (by repeat' (first | (with_reducible exact Below.refl _ _) | (with_reducible assumption) | (with_reducible refine below_drewN ?_ _) | (with_reducible refine Below.drew ?_) | (with_reducible refine ext_alloc ?_ _) | (with_reducible refine Below.setCell ?_ ?_ _) | go_size))⟩
  have i0 : ((n : Int) == 0) = false := by simpa using h0
  have i00 : (n == 0) = false := by simpa using h0
  have i01 : 1 ≤ n := by omega
  by_cases h2 : 10 < n
  · have HF : Hid (outsF O = 2) := hide (by unfold outsF; rw [if_neg (by have := HLN.out; omega), if_pos (by have := HLN.out; omega)])
    clear h0
    go_enter Try.func56, Try.ntmps56
    go_wp2_with (fail)
    go_ret
    exact ⟨ret_int HF.out.symm, (by repeat' (first | (with_reducible exact Below.refl _ _) | (with_reducible assumption) | (with_reducible refine below_drewN ?_ _) | (with_reducible refine Below.drew ?_) | (with_reducible refine ext_alloc ?_ _) | (with_reducible refine Below.setCell ?_ ?_ _) | go_size))⟩
  have HF : Hid (outsF O = firstF (outEl O) n) := hide (by unfold outsF; rw [if_neg (by have := HLN.out; omega), if_neg (by have := HLN.out; omega), HLN.out])
  clear h0
  go_enter Try.func56, Try.ntmps56
  go_wp2_with fail
  go_loopw [13] (fun ri wr => ∃ k : Nat, k ≤ n ∧ ri = .int .i64 k ∧ Hid (∀ j, j < k → outEl O j = 0) ∧ Hid (Ext w wr)) (fun ri _ => n - (intOf ri).toNat)
  case atStart => exact ⟨0, by omega, rfl, hide (fun j hj => by omega), hide (Ext.refl _)⟩
  case round =>
    obtain ⟨k, hk, rfl, HZ, HX⟩ := hrel
    have HWX := hide (HX.out)
    by_cases hlt : k < n
    rotate_left
    · have HF2 : Hid (outsF O = 0) := hide (by rw [HF.out, firstF_zero (fun j hj => HZ.out j (by omega))])
      go_wp2_with fail
      go_ret
      exact ⟨ret_int HF2.out.symm, HWX.out⟩
    have HW := hide (H.out.ext HWX.out)
    obtain ⟨b, off, rfl, _⟩ := H.out.addr (by omega)
    have a0 := HW.out.cellK hlt d0O 0 _ rfl
    have a1 := HW.out.cellK hlt d0O 1 _ rfl
    simp only [Nat.add_zero] at a0
    have hsz : (O.getD k d0O).1.size ≤ maxLen := HG.out _ (getD_mem O k d0O (by have := HLN.out; omega))
    have HNM := hide (fun (W : World) => refName_any (O.getD k d0O).1 hsz W)
    have HP := hide (fun (h0 : 0 < k) => HW.out.cellK (k := k - 1) (by omega) d0O 0 _ rfl)
    have hel : outEl O k = if nameB (O.getD k d0O).1 = false then 5 else if 0 < k ∧ sLe (O.getD k d0O).1 (O.getD (k - 1) d0O).1 = true then 8 else if (O.getD k d0O).2 < 1 ∨ 10000 < (O.getD k d0O).2 then 1 else 0 := rfl
    have HY : Hid (outEl O k ≠ 0 → outsF O = outEl O k) := hide (fun hz => by rw [HF.out, firstF_at HZ.out hz hlt])
    have HN : Hid (outEl O k = 0 → ∀ j, j < k + 1 → outEl O j = 0) := hide (fun hz j hj => by
      rcases Nat.lt_succ_iff_lt_or_eq.1 hj with h | h
      · exact HZ.out j h
      · rw [h]; exact hz)
    generalize outEl O k = z at *
    generalize O.getD k d0O = x at *
    obtain ⟨q, m⟩ := x
    simp only at a0 a1 hel hsz HNM
    clear hsz
    by_cases hn : nameB q = false
    · rw [if_pos hn] at hel
      have HF2 : Hid (outsF O = 5) := hide (by rw [HY.out (by omega), hel])
      rw [hn] at HNM
      clear hel hn
      go_wp2_with (((go_at_call 32; with_reducible refine (HNM.out _).mono ?_); rintro e w' ⟨rfl, rfl⟩))
      go_ret
      exact ⟨ret_int HF2.out.symm, Ext.trans HWX.out (by repeat' (first | (with_reducible exact Below.refl _ _) | (with_reducible assumption) | (with_reducible refine below_drewN ?_ _) | (with_reducible refine Below.drew ?_) | (with_reducible refine ext_alloc ?_ _) | (with_reducible refine Below.setCell ?_ ?_ _) | go_size))⟩
    have hn' : nameB q = true := by simpa using hn
    rw [if_neg hn] at hel
    rw [hn'] at HNM
    clear hn hn'
    rcases Nat.eq_zero_or_pos k with hk0 | hk0
    · have g0 : decide ((0 : Int) < (k : Int)) = false := by simp; omega
      have g00 : decide (0 < k) = false := by simp; omega
      rw [if_neg (by omega)] at hel
      clear hk0 HP
      by_cases hm : m < 1 ∨ 10000 < m
      · rw [if_pos hm] at hel
        have HF2 : Hid (outsF O = 1) := hide (by rw [HY.out (by omega), hel])
        clear hel
        go_wp2_with (((go_at_call 32; with_reducible refine (HNM.out _).mono ?_); rintro e w' ⟨rfl, rfl⟩))
        go_quiet (fail)
        go_wp2_with (first | ((go_at_call 33; with_reducible refine (within_yes ?_ _).mono ?_); (focus omega); rintro e w' ⟨rfl, rfl⟩) | ((go_at_call 33; with_reducible refine (within_no ?_ _).mono ?_); (focus omega); rintro e w' ⟨rfl, rfl⟩))
        go_ret
        exact ⟨ret_int HF2.out.symm, Ext.trans HWX.out (by repeat' (first | (with_reducible exact Below.refl _ _) | (with_reducible assumption) | (with_reducible refine below_drewN ?_ _) | (with_reducible refine Below.drew ?_) | (with_reducible refine ext_alloc ?_ _) | (with_reducible refine Below.setCell ?_ ?_ _) | go_size))⟩
      have hm' : 1 ≤ m ∧ m ≤ 10000 := by omega
      rw [if_neg hm] at hel
      have HN2 := hide (HN.out hel)
      clear hel hm
      go_wp2_with (((go_at_call 32; with_reducible refine (HNM.out _).mono ?_); rintro e w' ⟨rfl, rfl⟩))
      go_quiet (fail)
      go_wp2_with (first | ((go_at_call 33; with_reducible refine (within_yes ?_ _).mono ?_); (focus omega); rintro e w' ⟨rfl, rfl⟩) | ((go_at_call 33; with_reducible refine (within_no ?_ _).mono ?_); (focus omega); rintro e w' ⟨rfl, rfl⟩))
      go_roundw
      case rel => exact ⟨k + 1, by omega, by go_num, HN2, hide (Ext.trans HX.out (by repeat' (first | (with_reducible exact Below.refl _ _) | (with_reducible assumption) | (with_reducible refine below_drewN ?_ _) | (with_reducible refine Below.drew ?_) | (with_reducible refine ext_alloc ?_ _) | (with_reducible refine Below.setCell ?_ ?_ _) | go_size)))⟩
      case measure => simp [intOf]; omega
    have g0 : decide ((0 : Int) < (k : Int)) = true := by simp; omega
    have g00 : decide (0 < k) = true := by simp; omega
    have j2 : IntKind.i64.wrap ((k : Int) - 1) = (k : Int) - 1 := by rw [IntKind.wrap_i64]; omega
    have j3 : ((k : Int) - 1).toNat = k - 1 := by omega
    have j4 : 0 ≤ (k : Int) - 1 := by omega
    have j5 : (k : Int) - 1 < (n : Int) := by omega
    have j7 : 1 ≤ (k : Int) := by omega
    have j8 : (k : Int) ≤ (n : Int) := by omega
    have p0 := HP.out hk0
    simp only [Nat.add_zero] at p0
    generalize (O.getD (k - 1) d0O).1 = v at *
    have p1 := (Ext.alloc wr (.cells #[.string q, .int .i64 m] 98)).cell p0
    clear HP p0
    by_cases hv : sLe q v = true
    · rw [if_pos ⟨hk0, hv⟩] at hel
      have HF2 : Hid (outsF O = 8) := hide (by rw [HY.out (by omega), hel])
      unfold sLe at hv
      clear hel
      go_wp2_with (((go_at_call 32; with_reducible refine (HNM.out _).mono ?_); rintro e w' ⟨rfl, rfl⟩))
      go_quiet (fail)
      go_wp2_with (first | ((go_at_call 33; with_reducible refine (within_yes ?_ _).mono ?_); (focus omega); rintro e w' ⟨rfl, rfl⟩) | ((go_at_call 33; with_reducible refine (within_no ?_ _).mono ?_); (focus omega); rintro e w' ⟨rfl, rfl⟩))
      go_ret
      exact ⟨ret_int HF2.out.symm, Ext.trans HWX.out (by repeat' (first | (with_reducible exact Below.refl _ _) | (with_reducible assumption) | (with_reducible refine below_drewN ?_ _) | (with_reducible refine Below.drew ?_) | (with_reducible refine ext_alloc ?_ _) | (with_reducible refine Below.setCell ?_ ?_ _) | go_size))⟩
    rw [if_neg (by intro h; exact hv h.2)] at hel
    have hv' : sLe q v = false := by simpa using hv
    unfold sLe at hv'
    clear hv
    by_cases hm : m < 1 ∨ 10000 < m
    · rw [if_pos hm] at hel
      have HF2 : Hid (outsF O = 1) := hide (by rw [HY.out (by omega), hel])
      clear hel
      go_wp2_with (((go_at_call 32; with_reducible refine (HNM.out _).mono ?_); rintro e w' ⟨rfl, rfl⟩))
      go_quiet (fail)
      go_wp2_with (first | ((go_at_call 33; with_reducible refine (within_yes ?_ _).mono ?_); (focus omega); rintro e w' ⟨rfl, rfl⟩) | ((go_at_call 33; with_reducible refine (within_no ?_ _).mono ?_); (focus omega); rintro e w' ⟨rfl, rfl⟩))
      go_ret
      exact ⟨ret_int HF2.out.symm, Ext.trans HWX.out (by repeat' (first | (with_reducible exact Below.refl _ _) | (with_reducible assumption) | (with_reducible refine below_drewN ?_ _) | (with_reducible refine Below.drew ?_) | (with_reducible refine ext_alloc ?_ _) | (with_reducible refine Below.setCell ?_ ?_ _) | go_size))⟩
    have hm' : 1 ≤ m ∧ m ≤ 10000 := by omega
    rw [if_neg hm] at hel
    have HN2 := hide (HN.out hel)
    clear hel hm
    go_wp2_with (((go_at_call 32; with_reducible refine (HNM.out _).mono ?_); rintro e w' ⟨rfl, rfl⟩))
    go_quiet (fail)
    go_wp2_with (first | ((go_at_call 33; with_reducible refine (within_yes ?_ _).mono ?_); (focus omega); rintro e w' ⟨rfl, rfl⟩) | ((go_at_call 33; with_reducible refine (within_no ?_ _).mono ?_); (focus omega); rintro e w' ⟨rfl, rfl⟩))
    go_roundw
    case rel => exact ⟨k + 1, by omega, by go_num, HN2, hide (Ext.trans HX.out (by repeat' (first | (with_reducible exact Below.refl _ _) | (with_reducible assumption) | (with_reducible refine below_drewN ?_ _) | (with_reducible refine Below.drew ?_) | (with_reducible refine ext_alloc ?_ _) | (with_reducible refine Below.setCell ?_ ?_ _) | go_size)))⟩
    case measure => simp [intOf]; omega
set_option maxRecDepth 100000 in
set_option maxHeartbeats 8000000 in
theorem refLic_any (u i : ByteArray) (pf pt f t g : Int) {A : Option Addr} {n c : Nat} {O : List OutV} {w : World} (h : At w 2 eO A n c O) (hg : ∀ x ∈ O, okO x) :
    Calls Try.prog 41 #[.agg #[.string u, .string i, .int .i64 pf, .int .i64 pt, .int .i64 f, .int .i64 t, .int .i64 g, .slice A n c]] w fun e w' => e = .returned (.int .i64 (licF pf pt f t g O)) ∧ Ext w w' := by
  have HO := hide (fun (W : World) (hW : Ext w W) => refOuts_any (h.ext hW) hg)
  have hb := h.bound
  have HLN := hide h.len
  have H := hide h
  have HG := hide hg
  clear h hg
  by_cases c0 : pf < 0 ∨ 1000000000 < pf
  · have hF : licF pf pt f t g O = 1 := by unfold licF; rw [if_pos c0]
    rw [hF]
    clear hF
    go_enter Try.func41, Try.ntmps41
    go_wp2_with (first | ((go_at_call 33; with_reducible refine (within_yes ?_ _).mono ?_); (focus omega); rintro e w' ⟨rfl, rfl⟩) | ((go_at_call 33; with_reducible refine (within_no ?_ _).mono ?_); (focus omega); rintro e w' ⟨rfl, rfl⟩))
    go_ret
    exact ⟨rfl, (by repeat' (first | (with_reducible exact Below.refl _ _) | (with_reducible assumption) | (with_reducible refine below_drewN ?_ _) | (with_reducible refine Below.drew ?_) | (with_reducible refine ext_alloc ?_ _) | (with_reducible refine Below.setCell ?_ ?_ _) | go_size))⟩
  have c0a : 0 ≤ pf ∧ pf ≤ 1000000000 := by omega
  by_cases c1 : pt ≤ pf
  · have hF : licF pf pt f t g O = 8 := by unfold licF; rw [if_neg c0, if_pos c1]
    rw [hF]
    clear hF c0
    go_enter Try.func41, Try.ntmps41
    go_wp2_with (first | ((go_at_call 33; with_reducible refine (within_yes ?_ _).mono ?_); (focus omega); rintro e w' ⟨rfl, rfl⟩) | ((go_at_call 33; with_reducible refine (within_no ?_ _).mono ?_); (focus omega); rintro e w' ⟨rfl, rfl⟩))
    go_ret
    exact ⟨rfl, (by repeat' (first | (with_reducible exact Below.refl _ _) | (with_reducible assumption) | (with_reducible refine below_drewN ?_ _) | (with_reducible refine Below.drew ?_) | (with_reducible refine ext_alloc ?_ _) | (with_reducible refine Below.setCell ?_ ?_ _) | go_size))⟩
  have c1a : pf < pt := by omega
  by_cases c2 : 1000000001 < pt ∨ (f < 0 ∨ 1000000000000000 < f) ∨ (t < 0 ∨ 1000000000000000 < t)
  · have hF : licF pf pt f t g O = 1 := by unfold licF; rw [if_neg c0, if_neg c1, if_pos c2]
    rw [hF]
    clear hF c0 c1
    by_cases d1 : 1000000001 < pt
    · clear c2
      go_enter Try.func41, Try.ntmps41
      go_wp2_with (first | ((go_at_call 33; with_reducible refine (within_yes ?_ _).mono ?_); (focus omega); rintro e w' ⟨rfl, rfl⟩) | ((go_at_call 33; with_reducible refine (within_no ?_ _).mono ?_); (focus omega); rintro e w' ⟨rfl, rfl⟩))
      go_ret
      exact ⟨rfl, (by repeat' (first | (with_reducible exact Below.refl _ _) | (with_reducible assumption) | (with_reducible refine below_drewN ?_ _) | (with_reducible refine Below.drew ?_) | (with_reducible refine ext_alloc ?_ _) | (with_reducible refine Below.setCell ?_ ?_ _) | go_size))⟩
    have d1' : pt ≤ 1000000001 := by omega
    by_cases d2 : f < 0 ∨ 1000000000000000 < f
    · clear c2 d1
      go_enter Try.func41, Try.ntmps41
      go_wp2_with (first | ((go_at_call 33; with_reducible refine (within_yes ?_ _).mono ?_); (focus omega); rintro e w' ⟨rfl, rfl⟩) | ((go_at_call 33; with_reducible refine (within_no ?_ _).mono ?_); (focus omega); rintro e w' ⟨rfl, rfl⟩))
      go_ret
      exact ⟨rfl, (by repeat' (first | (with_reducible exact Below.refl _ _) | (with_reducible assumption) | (with_reducible refine below_drewN ?_ _) | (with_reducible refine Below.drew ?_) | (with_reducible refine ext_alloc ?_ _) | (with_reducible refine Below.setCell ?_ ?_ _) | go_size))⟩
    have d2' : 0 ≤ f ∧ f ≤ 1000000000000000 := by omega
    have d3 : t < 0 ∨ 1000000000000000 < t := by omega
    clear c2 d1 d2
    go_enter Try.func41, Try.ntmps41
    go_wp2_with (first | ((go_at_call 33; with_reducible refine (within_yes ?_ _).mono ?_); (focus omega); rintro e w' ⟨rfl, rfl⟩) | ((go_at_call 33; with_reducible refine (within_no ?_ _).mono ?_); (focus omega); rintro e w' ⟨rfl, rfl⟩))
    go_ret
    exact ⟨rfl, (by repeat' (first | (with_reducible exact Below.refl _ _) | (with_reducible assumption) | (with_reducible refine below_drewN ?_ _) | (with_reducible refine Below.drew ?_) | (with_reducible refine ext_alloc ?_ _) | (with_reducible refine Below.setCell ?_ ?_ _) | go_size))⟩
  have c2a : pt ≤ 1000000001 := by omega
  have c2b : 0 ≤ f ∧ f ≤ 1000000000000000 := by omega
  have c2c : 0 ≤ t ∧ t ≤ 1000000000000000 := by omega
  by_cases c3 : t ≤ f
  · have hF : licF pf pt f t g O = 8 := by unfold licF; rw [if_neg c0, if_neg c1, if_neg c2, if_pos c3]
    rw [hF]
    clear hF c0 c1 c2
    go_enter Try.func41, Try.ntmps41
    go_wp2_with (first | ((go_at_call 33; with_reducible refine (within_yes ?_ _).mono ?_); (focus omega); rintro e w' ⟨rfl, rfl⟩) | ((go_at_call 33; with_reducible refine (within_no ?_ _).mono ?_); (focus omega); rintro e w' ⟨rfl, rfl⟩))
    go_ret
    exact ⟨rfl, (by repeat' (first | (with_reducible exact Below.refl _ _) | (with_reducible assumption) | (with_reducible refine below_drewN ?_ _) | (with_reducible refine Below.drew ?_) | (with_reducible refine ext_alloc ?_ _) | (with_reducible refine Below.setCell ?_ ?_ _) | go_size))⟩
  have c3a : f < t := by omega
  by_cases c4 : g < 0 ∨ 1000000000000000 < g
  · have hF : licF pf pt f t g O = 1 := by unfold licF; rw [if_neg c0, if_neg c1, if_neg c2, if_neg c3, if_pos c4]
    rw [hF]
    clear hF c0 c1 c2 c3
    go_enter Try.func41, Try.ntmps41
    go_wp2_with (first | ((go_at_call 33; with_reducible refine (within_yes ?_ _).mono ?_); (focus omega); rintro e w' ⟨rfl, rfl⟩) | ((go_at_call 33; with_reducible refine (within_no ?_ _).mono ?_); (focus omega); rintro e w' ⟨rfl, rfl⟩))
    go_ret
    exact ⟨rfl, (by repeat' (first | (with_reducible exact Below.refl _ _) | (with_reducible assumption) | (with_reducible refine below_drewN ?_ _) | (with_reducible refine Below.drew ?_) | (with_reducible refine ext_alloc ?_ _) | (with_reducible refine Below.setCell ?_ ?_ _) | go_size))⟩
  have c4a : 0 ≤ g ∧ g ≤ 1000000000000000 := by omega
  have hF : licF pf pt f t g O = outsF O := by unfold licF; rw [if_neg c0, if_neg c1, if_neg c2, if_neg c3, if_neg c4]
  rw [hF]
  clear hF c0 c1 c2 c3 c4
  go_enter Try.func41, Try.ntmps41
  go_wp2_with (first | ((go_at_call 33; with_reducible refine (within_yes ?_ _).mono ?_); (focus omega); rintro e w' ⟨rfl, rfl⟩) | ((go_at_call 33; with_reducible refine (within_no ?_ _).mono ?_); (focus omega); rintro e w' ⟨rfl, rfl⟩))
  refine (HO.out _ (by repeat' (first | (with_reducible exact Below.refl _ _) | (with_reducible assumption) | (with_reducible refine below_drewN ?_ _) | (with_reducible refine Below.drew ?_) | (with_reducible refine ext_alloc ?_ _) | (with_reducible refine Below.setCell ?_ ?_ _) | go_size))).mono ?_
  rintro e w1 ⟨rfl, e1⟩
  have E1 := hide (show Ext w w1 from Ext.trans (by repeat' (first | (with_reducible exact Below.refl _ _) | (with_reducible assumption) | (with_reducible refine below_drewN ?_ _) | (with_reducible refine Below.drew ?_) | (with_reducible refine ext_alloc ?_ _) | (with_reducible refine Below.setCell ?_ ?_ _) | go_size)) e1)
  clear e1
  go_wp2_with fail
  go_ret
  exact ⟨rfl, E1.out⟩
set_option maxRecDepth 100000 in
set_option maxHeartbeats 8000000 in
theorem keyLic_any (u i : ByteArray) (pf pt f t g : Int) {A : Option Addr} {n c : Nat} {O : List OutV} {w : World} (h : At w 2 eO A n c O) (hg : ∀ x ∈ O, okO x) :
    Calls Try.prog 40 #[.agg #[.string u, .string i, .int .i64 pf, .int .i64 pt, .int .i64 f, .int .i64 t, .int .i64 g, .slice A n c]] w fun e w' => e = .returned (.int .i64 (licF pf pt f t g O)) ∧ Ext w w' := by
  have hb := h.bound
  have HLN := hide h.len
  have H := hide h
  have HG := hide hg
  clear h hg
  by_cases c0 : pf < 0 ∨ 1000000000 < pf
  · have hF : licF pf pt f t g O = 1 := by unfold licF; rw [if_pos c0]
    rw [hF]
    clear hF
    go_enter Try.func40, Try.ntmps40
    go_wp2_with (first | ((go_at_call 28; with_reducible refine (out_no ?_ _).mono ?_); (focus omega); rintro e w' ⟨rfl, rfl⟩) | ((go_at_call 28; with_reducible refine (out_yes ?_ _).mono ?_); (focus omega); rintro e w' ⟨rfl, rfl⟩))
    go_ret
    exact ⟨rfl, (by repeat' (first | (with_reducible exact Below.refl _ _) | (with_reducible assumption) | (with_reducible refine below_drewN ?_ _) | (with_reducible refine Below.drew ?_) | (with_reducible refine ext_alloc ?_ _) | (with_reducible refine Below.setCell ?_ ?_ _) | go_size))⟩
  have c0a : 0 ≤ pf ∧ pf ≤ 1000000000 := by omega
  by_cases c1 : pt ≤ pf
  · have hF : licF pf pt f t g O = 8 := by unfold licF; rw [if_neg c0, if_pos c1]
    rw [hF]
    clear hF c0
    go_enter Try.func40, Try.ntmps40
    go_wp2_with (first | ((go_at_call 28; with_reducible refine (out_no ?_ _).mono ?_); (focus omega); rintro e w' ⟨rfl, rfl⟩) | ((go_at_call 28; with_reducible refine (out_yes ?_ _).mono ?_); (focus omega); rintro e w' ⟨rfl, rfl⟩))
    go_ret
    exact ⟨rfl, (by repeat' (first | (with_reducible exact Below.refl _ _) | (with_reducible assumption) | (with_reducible refine below_drewN ?_ _) | (with_reducible refine Below.drew ?_) | (with_reducible refine ext_alloc ?_ _) | (with_reducible refine Below.setCell ?_ ?_ _) | go_size))⟩
  have c1a : pf < pt := by omega
  by_cases c2 : 1000000001 < pt ∨ (f < 0 ∨ 1000000000000000 < f) ∨ (t < 0 ∨ 1000000000000000 < t)
  · have hF : licF pf pt f t g O = 1 := by unfold licF; rw [if_neg c0, if_neg c1, if_pos c2]
    rw [hF]
    clear hF c0 c1
    by_cases d1 : 1000000001 < pt
    · clear c2
      go_enter Try.func40, Try.ntmps40
      go_wp2_with (first | ((go_at_call 28; with_reducible refine (out_no ?_ _).mono ?_); (focus omega); rintro e w' ⟨rfl, rfl⟩) | ((go_at_call 28; with_reducible refine (out_yes ?_ _).mono ?_); (focus omega); rintro e w' ⟨rfl, rfl⟩))
      go_ret
      exact ⟨rfl, (by repeat' (first | (with_reducible exact Below.refl _ _) | (with_reducible assumption) | (with_reducible refine below_drewN ?_ _) | (with_reducible refine Below.drew ?_) | (with_reducible refine ext_alloc ?_ _) | (with_reducible refine Below.setCell ?_ ?_ _) | go_size))⟩
    have d1' : pt ≤ 1000000001 := by omega
    by_cases d2 : f < 0 ∨ 1000000000000000 < f
    · clear c2 d1
      go_enter Try.func40, Try.ntmps40
      go_wp2_with (first | ((go_at_call 28; with_reducible refine (out_no ?_ _).mono ?_); (focus omega); rintro e w' ⟨rfl, rfl⟩) | ((go_at_call 28; with_reducible refine (out_yes ?_ _).mono ?_); (focus omega); rintro e w' ⟨rfl, rfl⟩))
      go_ret
      exact ⟨rfl, (by repeat' (first | (with_reducible exact Below.refl _ _) | (with_reducible assumption) | (with_reducible refine below_drewN ?_ _) | (with_reducible refine Below.drew ?_) | (with_reducible refine ext_alloc ?_ _) | (with_reducible refine Below.setCell ?_ ?_ _) | go_size))⟩
    have d2' : 0 ≤ f ∧ f ≤ 1000000000000000 := by omega
    have d3 : t < 0 ∨ 1000000000000000 < t := by omega
    clear c2 d1 d2
    go_enter Try.func40, Try.ntmps40
    go_wp2_with (first | ((go_at_call 28; with_reducible refine (out_no ?_ _).mono ?_); (focus omega); rintro e w' ⟨rfl, rfl⟩) | ((go_at_call 28; with_reducible refine (out_yes ?_ _).mono ?_); (focus omega); rintro e w' ⟨rfl, rfl⟩))
    go_ret
    exact ⟨rfl, (by repeat' (first | (with_reducible exact Below.refl _ _) | (with_reducible assumption) | (with_reducible refine below_drewN ?_ _) | (with_reducible refine Below.drew ?_) | (with_reducible refine ext_alloc ?_ _) | (with_reducible refine Below.setCell ?_ ?_ _) | go_size))⟩
  have c2a : pt ≤ 1000000001 := by omega
  have c2b : 0 ≤ f ∧ f ≤ 1000000000000000 := by omega
  have c2c : 0 ≤ t ∧ t ≤ 1000000000000000 := by omega
  by_cases c3 : t ≤ f
  · have hF : licF pf pt f t g O = 8 := by unfold licF; rw [if_neg c0, if_neg c1, if_neg c2, if_pos c3]
    rw [hF]
    clear hF c0 c1 c2
    go_enter Try.func40, Try.ntmps40
    go_wp2_with (first | ((go_at_call 28; with_reducible refine (out_no ?_ _).mono ?_); (focus omega); rintro e w' ⟨rfl, rfl⟩) | ((go_at_call 28; with_reducible refine (out_yes ?_ _).mono ?_); (focus omega); rintro e w' ⟨rfl, rfl⟩))
    go_ret
    exact ⟨rfl, (by repeat' (first | (with_reducible exact Below.refl _ _) | (with_reducible assumption) | (with_reducible refine below_drewN ?_ _) | (with_reducible refine Below.drew ?_) | (with_reducible refine ext_alloc ?_ _) | (with_reducible refine Below.setCell ?_ ?_ _) | go_size))⟩
  have c3a : f < t := by omega
  by_cases c4 : g < 0 ∨ 1000000000000000 < g
  · have hF : licF pf pt f t g O = 1 := by unfold licF; rw [if_neg c0, if_neg c1, if_neg c2, if_neg c3, if_pos c4]
    rw [hF]
    clear hF c0 c1 c2 c3
    go_enter Try.func40, Try.ntmps40
    go_wp2_with (first | ((go_at_call 28; with_reducible refine (out_no ?_ _).mono ?_); (focus omega); rintro e w' ⟨rfl, rfl⟩) | ((go_at_call 28; with_reducible refine (out_yes ?_ _).mono ?_); (focus omega); rintro e w' ⟨rfl, rfl⟩))
    go_ret
    exact ⟨rfl, (by repeat' (first | (with_reducible exact Below.refl _ _) | (with_reducible assumption) | (with_reducible refine below_drewN ?_ _) | (with_reducible refine Below.drew ?_) | (with_reducible refine ext_alloc ?_ _) | (with_reducible refine Below.setCell ?_ ?_ _) | go_size))⟩
  have c4a : 0 ≤ g ∧ g ≤ 1000000000000000 := by omega
  have hF : licF pf pt f t g O = outsF O := by unfold licF; rw [if_neg c0, if_neg c1, if_neg c2, if_neg c3, if_neg c4]
  rw [hF]
  clear hF c0 c1 c2 c3 c4
  by_cases h0 : n = 0
  · have HF : Hid (outsF O = 9) := hide (by unfold outsF; rw [if_pos (by have := HLN.out; omega)])
    subst h0
    go_enter Try.func40, Try.ntmps40
    go_wp2_with (first | ((go_at_call 28; with_reducible refine (out_no ?_ _).mono ?_); (focus omega); rintro e w' ⟨rfl, rfl⟩) | ((go_at_call 28; with_reducible refine (out_yes ?_ _).mono ?_); (focus omega); rintro e w' ⟨rfl, rfl⟩))
    go_ret
    exact ⟨ret_int HF.out.symm, (by repeat' (first | (with_reducible exact Below.refl _ _) | (with_reducible assumption) | (with_reducible refine below_drewN ?_ _) | (with_reducible refine Below.drew ?_) | (with_reducible refine ext_alloc ?_ _) | (with_reducible refine Below.setCell ?_ ?_ _) | go_size))⟩
  have i0 : ((n : Int) == 0) = false := by simpa using h0
  have i00 : (n == 0) = false := by simpa using h0
  have i01 : 1 ≤ n := by omega
  by_cases h2 : 10 < n
  · have HF : Hid (outsF O = 2) := hide (by unfold outsF; rw [if_neg (by have := HLN.out; omega), if_pos (by have := HLN.out; omega)])
    clear h0
    go_enter Try.func40, Try.ntmps40
    go_wp2_with (first | ((go_at_call 28; with_reducible refine (out_no ?_ _).mono ?_); (focus omega); rintro e w' ⟨rfl, rfl⟩) | ((go_at_call 28; with_reducible refine (out_yes ?_ _).mono ?_); (focus omega); rintro e w' ⟨rfl, rfl⟩))
    go_ret
    exact ⟨ret_int HF.out.symm, (by repeat' (first | (with_reducible exact Below.refl _ _) | (with_reducible assumption) | (with_reducible refine below_drewN ?_ _) | (with_reducible refine Below.drew ?_) | (with_reducible refine ext_alloc ?_ _) | (with_reducible refine Below.setCell ?_ ?_ _) | go_size))⟩
  have HF : Hid (outsF O = firstF (outEl O) n) := hide (by unfold outsF; rw [if_neg (by have := HLN.out; omega), if_neg (by have := HLN.out; omega), HLN.out])
  clear h0
  have HB : Hid (Ext w (w.alloc (.cells #[.string u, .string i, .int .i64 pf, .int .i64 pt, .int .i64 f, .int .i64 t, .int .i64 g, .slice A n c] 74))) := hide (Ext.alloc _ _)
  go_enter Try.func40, Try.ntmps40
  go_wp2_with (first | ((go_at_call 28; with_reducible refine (out_no ?_ _).mono ?_); (focus omega); rintro e w' ⟨rfl, rfl⟩) | ((go_at_call 28; with_reducible refine (out_yes ?_ _).mono ?_); (focus omega); rintro e w' ⟨rfl, rfl⟩))
  go_loopw [56] (fun ri wr => ∃ k : Nat, k ≤ n ∧ ri = .int .i64 k ∧ Hid (∀ j, j < k → outEl O j = 0) ∧ Hid (Ext (w.alloc (.cells #[.string u, .string i, .int .i64 pf, .int .i64 pt, .int .i64 f, .int .i64 t, .int .i64 g, .slice A n c] 74)) wr)) (fun ri _ => n - (intOf ri).toNat)
  case atStart => exact ⟨0, by omega, rfl, hide (fun j hj => by omega), hide (Ext.refl _)⟩
  case round =>
    obtain ⟨k, hk, rfl, HZ, HX⟩ := hrel
    have HWX := hide (Ext.trans HB.out HX.out)
    by_cases hlt : k < n
    rotate_left
    · have HF2 : Hid (outsF O = 0) := hide (by rw [HF.out, firstF_zero (fun j hj => HZ.out j (by omega))])
      go_wp2_with fail
      go_ret
      exact ⟨ret_int HF2.out.symm, HWX.out⟩
    have HW := hide (H.out.ext HWX.out)
    have b7 := HX.out.cell ((Blk.new w 74 #[.string u, .string i, .int .i64 pf, .int .i64 pt, .int .i64 f, .int .i64 t, .int .i64 g, .slice A n c]).cell 7)
    obtain ⟨b, off, rfl, _⟩ := H.out.addr (by omega)
    have a0 := HW.out.cellK hlt d0O 0 _ rfl
    have a1 := HW.out.cellK hlt d0O 1 _ rfl
    simp only [Nat.add_zero] at a0
    have hsz : (O.getD k d0O).1.size ≤ maxLen := HG.out _ (getD_mem O k d0O (by have := HLN.out; omega))
    have HNM := hide (fun (W : World) => isName_any (O.getD k d0O).1 hsz W)
    have HP := hide (fun (h0 : 0 < k) => HW.out.cellK (k := k - 1) (by omega) d0O 0 _ rfl)
    have hel : outEl O k = if nameB (O.getD k d0O).1 = false then 5 else if 0 < k ∧ sLe (O.getD k d0O).1 (O.getD (k - 1) d0O).1 = true then 8 else if (O.getD k d0O).2 < 1 ∨ 10000 < (O.getD k d0O).2 then 1 else 0 := rfl
    have HY : Hid (outEl O k ≠ 0 → outsF O = outEl O k) := hide (fun hz => by rw [HF.out, firstF_at HZ.out hz hlt])
    have HN : Hid (outEl O k = 0 → ∀ j, j < k + 1 → outEl O j = 0) := hide (fun hz j hj => by
      rcases Nat.lt_succ_iff_lt_or_eq.1 hj with h | h
      · exact HZ.out j h
      · rw [h]; exact hz)
    generalize outEl O k = z at *
    generalize O.getD k d0O = x at *
    obtain ⟨q, m⟩ := x
    simp only at a0 a1 hel hsz HNM
    clear hsz
    by_cases hn : nameB q = false
    · rw [if_pos hn] at hel
      have HF2 : Hid (outsF O = 5) := hide (by rw [HY.out (by omega), hel])
      rw [hn] at HNM
      clear hel hn
      go_wp2_with (((go_at_call 27; with_reducible refine (HNM.out _).mono ?_); rintro e w' ⟨rfl, rfl⟩))
      go_ret
      exact ⟨ret_int HF2.out.symm, Ext.trans HWX.out (by repeat' (first | (with_reducible exact Below.refl _ _) | (with_reducible assumption) | (with_reducible refine below_drewN ?_ _) | (with_reducible refine Below.drew ?_) | (with_reducible refine ext_alloc ?_ _) | (with_reducible refine Below.setCell ?_ ?_ _) | go_size))⟩
    have hn' : nameB q = true := by simpa using hn
    rw [if_neg hn] at hel
    rw [hn'] at HNM
    clear hn hn'
    rcases Nat.eq_zero_or_pos k with hk0 | hk0
    · have g0 : decide ((0 : Int) < (k : Int)) = false := by simp; omega
      have g00 : decide (0 < k) = false := by simp; omega
      rw [if_neg (by omega)] at hel
      clear hk0 HP
      by_cases hm : m < 1 ∨ 10000 < m
      · rw [if_pos hm] at hel
        have HF2 : Hid (outsF O = 1) := hide (by rw [HY.out (by omega), hel])
        clear hel
        go_wp2_with (((go_at_call 27; with_reducible refine (HNM.out _).mono ?_); rintro e w' ⟨rfl, rfl⟩))
        go_quiet (fail)
        go_wp2_with (first | ((go_at_call 28; with_reducible refine (out_no ?_ _).mono ?_); (focus omega); rintro e w' ⟨rfl, rfl⟩) | ((go_at_call 28; with_reducible refine (out_yes ?_ _).mono ?_); (focus omega); rintro e w' ⟨rfl, rfl⟩))
        go_ret
        exact ⟨ret_int HF2.out.symm, Ext.trans HWX.out (by repeat' (first | (with_reducible exact Below.refl _ _) | (with_reducible assumption) | (with_reducible refine below_drewN ?_ _) | (with_reducible refine Below.drew ?_) | (with_reducible refine ext_alloc ?_ _) | (with_reducible refine Below.setCell ?_ ?_ _) | go_size))⟩
      have hm' : 1 ≤ m ∧ m ≤ 10000 := by omega
      rw [if_neg hm] at hel
      have HN2 := hide (HN.out hel)
      clear hel hm
      go_wp2_with (((go_at_call 27; with_reducible refine (HNM.out _).mono ?_); rintro e w' ⟨rfl, rfl⟩))
      go_quiet (fail)
      go_wp2_with (first | ((go_at_call 28; with_reducible refine (out_no ?_ _).mono ?_); (focus omega); rintro e w' ⟨rfl, rfl⟩) | ((go_at_call 28; with_reducible refine (out_yes ?_ _).mono ?_); (focus omega); rintro e w' ⟨rfl, rfl⟩))
      go_roundw
      case rel => exact ⟨k + 1, by omega, by go_num, HN2, hide (Ext.trans HX.out (by repeat' (first | (with_reducible exact Below.refl _ _) | (with_reducible assumption) | (with_reducible refine below_drewN ?_ _) | (with_reducible refine Below.drew ?_) | (with_reducible refine ext_alloc ?_ _) | (with_reducible refine Below.setCell ?_ ?_ _) | go_size)))⟩
      case measure => simp [intOf]; omega
    have g0 : decide ((0 : Int) < (k : Int)) = true := by simp; omega
    have g00 : decide (0 < k) = true := by simp; omega
    have j2 : IntKind.i64.wrap ((k : Int) - 1) = (k : Int) - 1 := by rw [IntKind.wrap_i64]; omega
    have j3 : ((k : Int) - 1).toNat = k - 1 := by omega
    have j4 : 0 ≤ (k : Int) - 1 := by omega
    have j5 : (k : Int) - 1 < (n : Int) := by omega
    have j7 : 1 ≤ (k : Int) := by omega
    have j8 : (k : Int) ≤ (n : Int) := by omega
    have p0 := HP.out hk0
    simp only [Nat.add_zero] at p0
    generalize (O.getD (k - 1) d0O).1 = v at *
    have p1 := (Ext.alloc wr (.cells #[.string q, .int .i64 m] 98)).cell p0
    have p7 := (Ext.alloc wr (.cells #[.string q, .int .i64 m] 98)).cell b7
    clear HP p0
    by_cases hv : sLe q v = true
    · rw [if_pos ⟨hk0, hv⟩] at hel
      have HF2 : Hid (outsF O = 8) := hide (by rw [HY.out (by omega), hel])
      unfold sLe at hv
      clear hel
      go_wp2_with (((go_at_call 27; with_reducible refine (HNM.out _).mono ?_); rintro e w' ⟨rfl, rfl⟩))
      go_quiet (fail)
      go_wp2_with (first | ((go_at_call 28; with_reducible refine (out_no ?_ _).mono ?_); (focus omega); rintro e w' ⟨rfl, rfl⟩) | ((go_at_call 28; with_reducible refine (out_yes ?_ _).mono ?_); (focus omega); rintro e w' ⟨rfl, rfl⟩))
      go_ret
      exact ⟨ret_int HF2.out.symm, Ext.trans HWX.out (by repeat' (first | (with_reducible exact Below.refl _ _) | (with_reducible assumption) | (with_reducible refine below_drewN ?_ _) | (with_reducible refine Below.drew ?_) | (with_reducible refine ext_alloc ?_ _) | (with_reducible refine Below.setCell ?_ ?_ _) | go_size))⟩
    rw [if_neg (by intro h; exact hv h.2)] at hel
    have hv' : sLe q v = false := by simpa using hv
    unfold sLe at hv'
    clear hv
    by_cases hm : m < 1 ∨ 10000 < m
    · rw [if_pos hm] at hel
      have HF2 : Hid (outsF O = 1) := hide (by rw [HY.out (by omega), hel])
      clear hel
      go_wp2_with (((go_at_call 27; with_reducible refine (HNM.out _).mono ?_); rintro e w' ⟨rfl, rfl⟩))
      go_quiet (fail)
      go_wp2_with (first | ((go_at_call 28; with_reducible refine (out_no ?_ _).mono ?_); (focus omega); rintro e w' ⟨rfl, rfl⟩) | ((go_at_call 28; with_reducible refine (out_yes ?_ _).mono ?_); (focus omega); rintro e w' ⟨rfl, rfl⟩))
      go_ret
      exact ⟨ret_int HF2.out.symm, Ext.trans HWX.out (by repeat' (first | (with_reducible exact Below.refl _ _) | (with_reducible assumption) | (with_reducible refine below_drewN ?_ _) | (with_reducible refine Below.drew ?_) | (with_reducible refine ext_alloc ?_ _) | (with_reducible refine Below.setCell ?_ ?_ _) | go_size))⟩
    have hm' : 1 ≤ m ∧ m ≤ 10000 := by omega
    rw [if_neg hm] at hel
    have HN2 := hide (HN.out hel)
    clear hel hm
    go_wp2_with (((go_at_call 27; with_reducible refine (HNM.out _).mono ?_); rintro e w' ⟨rfl, rfl⟩))
    go_quiet (fail)
    go_wp2_with (first | ((go_at_call 28; with_reducible refine (out_no ?_ _).mono ?_); (focus omega); rintro e w' ⟨rfl, rfl⟩) | ((go_at_call 28; with_reducible refine (out_yes ?_ _).mono ?_); (focus omega); rintro e w' ⟨rfl, rfl⟩))
    go_roundw
    case rel => exact ⟨k + 1, by omega, by go_num, HN2, hide (Ext.trans HX.out (by repeat' (first | (with_reducible exact Below.refl _ _) | (with_reducible assumption) | (with_reducible refine below_drewN ?_ _) | (with_reducible refine Below.drew ?_) | (with_reducible refine ext_alloc ?_ _) | (with_reducible refine Below.setCell ?_ ?_ _) | go_size)))⟩
    case measure => simp [intOf]; omega
end Go.Proofs.Ytfpmjaeehhegcaa
