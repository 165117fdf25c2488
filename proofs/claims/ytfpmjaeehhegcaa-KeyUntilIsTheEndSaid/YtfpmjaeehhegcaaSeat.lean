/- Walks: CheckSeats (both). Conditions: strings are no longer than strings can be. -/
import Derived.Test.YtfpmjaeehhegcaaNamesR
import Derived.Test.YtfpmjaeehhegcaaPairs
import Derived.Test.YtfpmjaeehhegcaaStep
import Derived.Test.YtfpmjaeehhegcaaLeaP
import Derived.Deep.RegionHeld3
import Derived.Deep.RegionWith
import Derived.StillTailTactics
import Derived.Handy
import Derived.Lib.MinMax
namespace Go.Proofs.Ytfpmjaeehhegcaa
open Go.RowKit

theorem out_no {n lo hi : Int} (h : lo ≤ n ∧ n ≤ hi) (w : World) :
    Calls Try.prog 28 #[.int .i64 n, .int .i64 lo, .int .i64 hi] w fun e w' => e = .returned (.bool false) ∧ w = w' := by
  obtain ⟨h1, h2⟩ := h
  go_enter Try.func28, Try.ntmps28
  go_wp2
  go_ret
  exact ⟨ret_bool (by first | rfl | (simp; omega)), rfl⟩
theorem out_yes {n lo hi : Int} (h : n < lo ∨ hi < n) (w : World) :
    Calls Try.prog 28 #[.int .i64 n, .int .i64 lo, .int .i64 hi] w fun e w' => e = .returned (.bool true) ∧ w = w' := by
  by_cases h1 : n < lo
  · clear h
    go_enter Try.func28, Try.ntmps28
    go_wp2
    go_ret
    exact ⟨ret_bool (by first | rfl | (simp; omega)), rfl⟩
  · have h2 : hi < n := by omega
    clear h
    go_enter Try.func28, Try.ntmps28
    go_wp2
    go_ret
    exact ⟨ret_bool (by first | rfl | (simp; omega)), rfl⟩
theorem within_yes {n lo hi : Int} (h : lo ≤ n ∧ n ≤ hi) (w : World) :
    Calls Try.prog 33 #[.int .i64 n, .int .i64 lo, .int .i64 hi] w fun e w' => e = .returned (.bool true) ∧ w = w' := by
  obtain ⟨h1, h2⟩ := h
  go_enter Try.func33, Try.ntmps33
  go_wp2
  go_ret
  exact ⟨ret_bool (by first | rfl | (simp; omega)), rfl⟩
theorem within_no {n lo hi : Int} (h : n < lo ∨ hi < n) (w : World) :
    Calls Try.prog 33 #[.int .i64 n, .int .i64 lo, .int .i64 hi] w fun e w' => e = .returned (.bool false) ∧ w = w' := by
  by_cases h1 : n < lo
  · clear h
    go_enter Try.func33, Try.ntmps33
    go_wp2
    go_ret
    exact ⟨ret_bool (by first | rfl | (simp; omega)), rfl⟩
  · have h2 : hi < n := by omega
    clear h
    go_enter Try.func33, Try.ntmps33
    go_wp2
    go_ret
    exact ⟨ret_bool (by first | rfl | (simp; omega)), rfl⟩
/-- Is a string not behind another one? -/
def sLe (a b : ByteArray) : Bool := Op.bytesLess a.toList b.toList || a.toList == b.toList
/-- Seats in memory. -/
abbrev SeatV := ByteArray × Int × Int
abbrev eS (x : SeatV) : List Value := [.string x.1, .int .i64 x.2.1, .int .i64 x.2.2]
abbrev d0S : SeatV := (ByteArray.empty, 0, 0)
def okS (x : SeatV) : Prop := x.1.size ≤ maxLen
def seatEl (L : List SeatV) (i : Nat) : Int :=
  if nameB (L.getD i d0S).1 = false then 5
  else if 0 < i ∧ sLe (L.getD i d0S).1 (L.getD (i - 1) d0S).1 = true then 8
  else if (L.getD i d0S).2.1 < 0 ∨ 50 < (L.getD i d0S).2.1 ∨ (L.getD i d0S).2.2 < 1 ∨ 1000000000000000 < (L.getD i d0S).2.2 then 1 else 0
def seatsF (L : List SeatV) : Int := if 200 < L.length then 2 else firstF (seatEl L) L.length
set_option maxRecDepth 100000 in
set_option maxHeartbeats 4000000 in
theorem keySeats_any {A : Option Addr} {n c : Nat} {L : List SeatV} {w : World} (h : At w 3 eS A n c L) (hg : ∀ x ∈ L, okS x) :
    Calls Try.prog 13 #[.slice A n c] w fun e w' => e = .returned (.int .i64 (seatsF L)) ∧ Ext w w' := by
  have hb := h.bound
  have HLN := hide h.len
  have H := hide h
  have HG := hide hg
  clear h hg
  by_cases h2 : 200 < n
  · have HF : Hid (seatsF L = 2) := hide (by unfold seatsF; rw [if_pos (by have := HLN.out; omega)])
    go_enter Try.func13, Try.ntmps13
    go_wp2_with fail
    go_ret
    exact ⟨ret_int HF.out.symm, (by repeat' (first | (with_reducible exact Below.refl _ _) | (with_reducible assumption) | (with_reducible refine below_drewN ?_ _) | (with_reducible refine Below.drew ?_) | (with_reducible refine ext_alloc ?_ _) | (with_reducible refine Below.setCell ?_ ?_ _) | go_size))⟩
  have HF : Hid (seatsF L = firstF (seatEl L) n) := hide (by unfold seatsF; rw [if_neg (by have := HLN.out; omega), HLN.out])
  go_enter Try.func13, Try.ntmps13
  go_wp2_with fail
  go_loopw [10] (fun ri wr => ∃ k : Nat, k ≤ n ∧ ri = .int .i64 k ∧ Hid (∀ j, j < k → seatEl L j = 0) ∧ Hid (Ext w wr)) (fun ri _ => n - (intOf ri).toNat)
  case atStart => exact ⟨0, by omega, rfl, hide (fun j hj => by omega), hide (Ext.refl _)⟩
  case round =>
    obtain ⟨k, hk, rfl, HZ, HX⟩ := hrel
    by_cases hlt : k < n
    rotate_left
    · have HF2 : Hid (seatsF L = 0) := hide (by rw [HF.out, firstF_zero (fun j hj => HZ.out j (by omega))])
      go_wp2_with fail
      go_ret
      exact ⟨ret_int HF2.out.symm, HX.out⟩
    have HW := hide (H.out.ext HX.out)
    obtain ⟨b, off, rfl, _⟩ := H.out.addr (by omega)
    have a0 := HW.out.cellK hlt d0S 0 _ rfl
    have a1 := HW.out.cellK hlt d0S 1 _ rfl
    have a2 := HW.out.cellK hlt d0S 2 _ rfl
    simp only [Nat.add_zero] at a0
    have hsz : (L.getD k d0S).1.size ≤ maxLen := HG.out _ (getD_mem L k d0S (by have := HLN.out; omega))
    have HNM := hide (fun (W : World) => isName_any (L.getD k d0S).1 hsz W)
    have HP := hide (fun (h0 : 0 < k) => HW.out.cellK (k := k - 1) (by omega) d0S 0 _ rfl)
    have hel : seatEl L k = if nameB (L.getD k d0S).1 = false then 5
      else if 0 < k ∧ sLe (L.getD k d0S).1 (L.getD (k - 1) d0S).1 = true then 8
      else if (L.getD k d0S).2.1 < 0 ∨ 50 < (L.getD k d0S).2.1 ∨ (L.getD k d0S).2.2 < 1 ∨ 1000000000000000 < (L.getD k d0S).2.2 then 1 else 0 := rfl
    have HY : Hid (seatEl L k ≠ 0 → seatsF L = seatEl L k) := hide (fun hz => by rw [HF.out, firstF_at HZ.out hz hlt])
    have HN : Hid (seatEl L k = 0 → ∀ j, j < k + 1 → seatEl L j = 0) := hide (fun hz j hj => by
      rcases Nat.lt_succ_iff_lt_or_eq.1 hj with h | h
      · exact HZ.out j h
      · rw [h]; exact hz)
    generalize seatEl L k = z at *
    generalize L.getD k d0S = x at *
    obtain ⟨u, m, g⟩ := x
    simp only at a0 a1 a2 hel hsz HNM
    clear hsz
    by_cases hn : nameB u = false
    · rw [if_pos hn] at hel
      have HF2 : Hid (seatsF L = 5) := hide (by rw [HY.out (by omega), hel])
      rw [hn] at HNM
      clear hel hn
      go_wp2_with (((go_at_call 27; with_reducible refine (HNM.out _).mono ?_); rintro e w' ⟨rfl, rfl⟩))
      go_ret
      exact ⟨ret_int HF2.out.symm, Ext.trans HX.out (by repeat' (first | (with_reducible exact Below.refl _ _) | (with_reducible assumption) | (with_reducible refine below_drewN ?_ _) | (with_reducible refine Below.drew ?_) | (with_reducible refine ext_alloc ?_ _) | (with_reducible refine Below.setCell ?_ ?_ _) | go_size))⟩
    have hn' : nameB u = true := by simpa using hn
    rw [if_neg hn] at hel
    rw [hn'] at HNM
    clear hn hn'
    rcases Nat.eq_zero_or_pos k with hk0 | hk0
    · have g0 : decide ((0 : Int) < (k : Int)) = false := by simp; omega
      have g00 : decide (0 < k) = false := by simp; omega
      rw [if_neg (by omega)] at hel
      clear hk0 HP
      by_cases hm : m < 0 ∨ 50 < m
      · rw [if_pos (by omega)] at hel
        have HF2 : Hid (seatsF L = 1) := hide (by rw [HY.out (by omega), hel])
        clear hel
        go_wp2_with (((go_at_call 27; with_reducible refine (HNM.out _).mono ?_); rintro e w' ⟨rfl, rfl⟩))
        go_quiet (fail)
        go_wp2_with (first | ((go_at_call 28; with_reducible refine (out_no ?_ _).mono ?_); (focus omega); rintro e w' ⟨rfl, rfl⟩) | ((go_at_call 28; with_reducible refine (out_yes ?_ _).mono ?_); (focus omega); rintro e w' ⟨rfl, rfl⟩))
        go_ret
        exact ⟨ret_int HF2.out.symm, Ext.trans HX.out (by repeat' (first | (with_reducible exact Below.refl _ _) | (with_reducible assumption) | (with_reducible refine below_drewN ?_ _) | (with_reducible refine Below.drew ?_) | (with_reducible refine ext_alloc ?_ _) | (with_reducible refine Below.setCell ?_ ?_ _) | go_size))⟩
      have hm' : 0 ≤ m ∧ m ≤ 50 := by omega
      by_cases hg : g < 1 ∨ 1000000000000000 < g
      · rw [if_pos (by omega)] at hel
        have HF2 : Hid (seatsF L = 1) := hide (by rw [HY.out (by omega), hel])
        clear hel hm
        go_wp2_with (((go_at_call 27; with_reducible refine (HNM.out _).mono ?_); rintro e w' ⟨rfl, rfl⟩))
        go_quiet (fail)
        go_wp2_with (first | ((go_at_call 28; with_reducible refine (out_no ?_ _).mono ?_); (focus omega); rintro e w' ⟨rfl, rfl⟩) | ((go_at_call 28; with_reducible refine (out_yes ?_ _).mono ?_); (focus omega); rintro e w' ⟨rfl, rfl⟩))
        go_ret
        exact ⟨ret_int HF2.out.symm, Ext.trans HX.out (by repeat' (first | (with_reducible exact Below.refl _ _) | (with_reducible assumption) | (with_reducible refine below_drewN ?_ _) | (with_reducible refine Below.drew ?_) | (with_reducible refine ext_alloc ?_ _) | (with_reducible refine Below.setCell ?_ ?_ _) | go_size))⟩
      have hg' : 1 ≤ g ∧ g ≤ 1000000000000000 := by omega
      rw [if_neg (by omega)] at hel
      have HN2 := hide (HN.out hel)
      clear hel hm hg
      go_wp2_with (((go_at_call 27; with_reducible refine (HNM.out _).mono ?_); rintro e w' ⟨rfl, rfl⟩))
      go_quiet (fail)
      go_wp2_with (first | ((go_at_call 28; with_reducible refine (out_no ?_ _).mono ?_); (focus omega); rintro e w' ⟨rfl, rfl⟩) | ((go_at_call 28; with_reducible refine (out_yes ?_ _).mono ?_); (focus omega); rintro e w' ⟨rfl, rfl⟩))
      go_roundw
      case rel => exact ⟨k + 1, by omega, by go_num, HN2, hide (Ext.trans HX.out (by repeat' (first | (with_reducible exact Below.refl _ _) | (with_reducible assumption) | (with_reducible refine below_drewN ?_ _) | (with_reducible refine Below.drew ?_) | (with_reducible refine ext_alloc ?_ _) | (with_reducible refine Below.setCell ?_ ?_ _) | go_size)))⟩
      case measure => simp [intOf]; omega
    have g0 : decide ((0 : Int) < (k : Int)) = true := by simp; omega
    have g00 : decide (0 < k) = true := by simp; omega
    have j2 : IntKind.i64.wrap ((k : Int) - 1) = (k : Int) - 1 := by rw [IntKind.wrap_i64]; omega
    have j3 : ((k : Int) - 1).toNat = k - 1 := by omega
    have j4 : 0 ≤ (k : Int) - 1 := by omega
    have j5 : (k : Int) - 1 < (n : Int) := by omega
    have j7 : 1 ≤ (k : Int) := by omega
    have j8 : (k : Int) ≤ (n : Int) := by omega
    have p0 := HP.out hk0
    simp only [Nat.add_zero] at p0
    generalize (L.getD (k - 1) d0S).1 = v at *
    have p1 := (Ext.alloc wr (.cells #[.string u, .int .i64 m, .int .i64 g] 61)).cell p0
    clear HP p0
    by_cases hv : sLe u v = true
    · rw [if_pos ⟨hk0, hv⟩] at hel
      have HF2 : Hid (seatsF L = 8) := hide (by rw [HY.out (by omega), hel])
      unfold sLe at hv
      clear hel
      go_wp2_with (((go_at_call 27; with_reducible refine (HNM.out _).mono ?_); rintro e w' ⟨rfl, rfl⟩))
      go_quiet (fail)
      go_wp2_with (first | ((go_at_call 28; with_reducible refine (out_no ?_ _).mono ?_); (focus omega); rintro e w' ⟨rfl, rfl⟩) | ((go_at_call 28; with_reducible refine (out_yes ?_ _).mono ?_); (focus omega); rintro e w' ⟨rfl, rfl⟩))
      go_ret
      exact ⟨ret_int HF2.out.symm, Ext.trans HX.out (by repeat' (first | (with_reducible exact Below.refl _ _) | (with_reducible assumption) | (with_reducible refine below_drewN ?_ _) | (with_reducible refine Below.drew ?_) | (with_reducible refine ext_alloc ?_ _) | (with_reducible refine Below.setCell ?_ ?_ _) | go_size))⟩
    rw [if_neg (by intro h; exact hv h.2)] at hel
    have hv' : sLe u v = false := by simpa using hv
    unfold sLe at hv'
    clear hv
    by_cases hm : m < 0 ∨ 50 < m
    · rw [if_pos (by omega)] at hel
      have HF2 : Hid (seatsF L = 1) := hide (by rw [HY.out (by omega), hel])
      clear hel
      go_wp2_with (((go_at_call 27; with_reducible refine (HNM.out _).mono ?_); rintro e w' ⟨rfl, rfl⟩))
      go_quiet (fail)
      go_wp2_with (first | ((go_at_call 28; with_reducible refine (out_no ?_ _).mono ?_); (focus omega); rintro e w' ⟨rfl, rfl⟩) | ((go_at_call 28; with_reducible refine (out_yes ?_ _).mono ?_); (focus omega); rintro e w' ⟨rfl, rfl⟩))
      go_ret
      exact ⟨ret_int HF2.out.symm, Ext.trans HX.out (by repeat' (first | (with_reducible exact Below.refl _ _) | (with_reducible assumption) | (with_reducible refine below_drewN ?_ _) | (with_reducible refine Below.drew ?_) | (with_reducible refine ext_alloc ?_ _) | (with_reducible refine Below.setCell ?_ ?_ _) | go_size))⟩
    have hm' : 0 ≤ m ∧ m ≤ 50 := by omega
    by_cases hg : g < 1 ∨ 1000000000000000 < g
    · rw [if_pos (by omega)] at hel
      have HF2 : Hid (seatsF L = 1) := hide (by rw [HY.out (by omega), hel])
      clear hel hm
      go_wp2_with (((go_at_call 27; with_reducible refine (HNM.out _).mono ?_); rintro e w' ⟨rfl, rfl⟩))
      go_quiet (fail)
      go_wp2_with (first | ((go_at_call 28; with_reducible refine (out_no ?_ _).mono ?_); (focus omega); rintro e w' ⟨rfl, rfl⟩) | ((go_at_call 28; with_reducible refine (out_yes ?_ _).mono ?_); (focus omega); rintro e w' ⟨rfl, rfl⟩))
      go_ret
      exact ⟨ret_int HF2.out.symm, Ext.trans HX.out (by repeat' (first | (with_reducible exact Below.refl _ _) | (with_reducible assumption) | (with_reducible refine below_drewN ?_ _) | (with_reducible refine Below.drew ?_) | (with_reducible refine ext_alloc ?_ _) | (with_reducible refine Below.setCell ?_ ?_ _) | go_size))⟩
    have hg' : 1 ≤ g ∧ g ≤ 1000000000000000 := by omega
    rw [if_neg (by omega)] at hel
    have HN2 := hide (HN.out hel)
    clear hel hm hg
    go_wp2_with (((go_at_call 27; with_reducible refine (HNM.out _).mono ?_); rintro e w' ⟨rfl, rfl⟩))
    go_quiet (fail)
    go_wp2_with (first | ((go_at_call 28; with_reducible refine (out_no ?_ _).mono ?_); (focus omega); rintro e w' ⟨rfl, rfl⟩) | ((go_at_call 28; with_reducible refine (out_yes ?_ _).mono ?_); (focus omega); rintro e w' ⟨rfl, rfl⟩))
    go_roundw
    case rel => exact ⟨k + 1, by omega, by go_num, HN2, hide (Ext.trans HX.out (by repeat' (first | (with_reducible exact Below.refl _ _) | (with_reducible assumption) | (with_reducible refine below_drewN ?_ _) | (with_reducible refine Below.drew ?_) | (with_reducible refine ext_alloc ?_ _) | (with_reducible refine Below.setCell ?_ ?_ _) | go_size)))⟩
    case measure => simp [intOf]; omega
set_option maxRecDepth 100000 in
set_option maxHeartbeats 4000000 in
theorem refSeats_any {A : Option Addr} {n c : Nat} {L : List SeatV} {w : World} (h : At w 3 eS A n c L) (hg : ∀ x ∈ L, okS x) :
    Calls Try.prog 14 #[.slice A n c] w fun e w' => e = .returned (.int .i64 (seatsF L)) ∧ Ext w w' := by
  have hb := h.bound
  have HLN := hide h.len
  have H := hide h
  have HG := hide hg
  clear h hg
  by_cases h2 : 200 < n
  · have HF : Hid (seatsF L = 2) := hide (by unfold seatsF; rw [if_pos (by have := HLN.out; omega)])
    go_enter Try.func14, Try.ntmps14
    go_wp2_with fail
    go_ret
    exact ⟨ret_int HF.out.symm, (by repeat' (first | (with_reducible exact Below.refl _ _) | (with_reducible assumption) | (with_reducible refine below_drewN ?_ _) | (with_reducible refine Below.drew ?_) | (with_reducible refine ext_alloc ?_ _) | (with_reducible refine Below.setCell ?_ ?_ _) | go_size))⟩
  have HF : Hid (seatsF L = firstF (seatEl L) n) := hide (by unfold seatsF; rw [if_neg (by have := HLN.out; omega), HLN.out])
  go_enter Try.func14, Try.ntmps14
  go_wp2_with fail
  go_loopw [10] (fun ri wr => ∃ k : Nat, k ≤ n ∧ ri = .int .i64 k ∧ Hid (∀ j, j < k → seatEl L j = 0) ∧ Hid (Ext w wr)) (fun ri _ => n - (intOf ri).toNat)
  case atStart => exact ⟨0, by omega, rfl, hide (fun j hj => by omega), hide (Ext.refl _)⟩
  case round =>
    obtain ⟨k, hk, rfl, HZ, HX⟩ := hrel
    by_cases hlt : k < n
    rotate_left
    · have HF2 : Hid (seatsF L = 0) := hide (by rw [HF.out, firstF_zero (fun j hj => HZ.out j (by omega))])
      go_wp2_with fail
      go_ret
      exact ⟨ret_int HF2.out.symm, HX.out⟩
    have HW := hide (H.out.ext HX.out)
    obtain ⟨b, off, rfl, _⟩ := H.out.addr (by omega)
    have a0 := HW.out.cellK hlt d0S 0 _ rfl
    have a1 := HW.out.cellK hlt d0S 1 _ rfl
    have a2 := HW.out.cellK hlt d0S 2 _ rfl
    simp only [Nat.add_zero] at a0
    have hsz : (L.getD k d0S).1.size ≤ maxLen := HG.out _ (getD_mem L k d0S (by have := HLN.out; omega))
    have HNM := hide (fun (W : World) => refName_any (L.getD k d0S).1 hsz W)
    have HP := hide (fun (h0 : 0 < k) => HW.out.cellK (k := k - 1) (by omega) d0S 0 _ rfl)
    have hel : seatEl L k = if nameB (L.getD k d0S).1 = false then 5
      else if 0 < k ∧ sLe (L.getD k d0S).1 (L.getD (k - 1) d0S).1 = true then 8
      else if (L.getD k d0S).2.1 < 0 ∨ 50 < (L.getD k d0S).2.1 ∨ (L.getD k d0S).2.2 < 1 ∨ 1000000000000000 < (L.getD k d0S).2.2 then 1 else 0 := rfl
    have HY : Hid (seatEl L k ≠ 0 → seatsF L = seatEl L k) := hide (fun hz => by rw [HF.out, firstF_at HZ.out hz hlt])
    have HN : Hid (seatEl L k = 0 → ∀ j, j < k + 1 → seatEl L j = 0) := hide (fun hz j hj => by
      rcases Nat.lt_succ_iff_lt_or_eq.1 hj with h | h
      · exact HZ.out j h
      · rw [h]; exact hz)
    generalize seatEl L k = z at *
    generalize L.getD k d0S = x at *
    obtain ⟨u, m, g⟩ := x
    simp only at a0 a1 a2 hel hsz HNM
    clear hsz
    by_cases hn : nameB u = false
    · rw [if_pos hn] at hel
      have HF2 : Hid (seatsF L = 5) := hide (by rw [HY.out (by omega), hel])
      rw [hn] at HNM
      clear hel hn
      go_wp2_with (((go_at_call 32; with_reducible refine (HNM.out _).mono ?_); rintro e w' ⟨rfl, rfl⟩))
      go_ret
      exact ⟨ret_int HF2.out.symm, Ext.trans HX.out (by repeat' (first | (with_reducible exact Below.refl _ _) | (with_reducible assumption) | (with_reducible refine below_drewN ?_ _) | (with_reducible refine Below.drew ?_) | (with_reducible refine ext_alloc ?_ _) | (with_reducible refine Below.setCell ?_ ?_ _) | go_size))⟩
    have hn' : nameB u = true := by simpa using hn
    rw [if_neg hn] at hel
    rw [hn'] at HNM
    clear hn hn'
    rcases Nat.eq_zero_or_pos k with hk0 | hk0
    · have g0 : decide ((0 : Int) < (k : Int)) = false := by simp; omega
      have g00 : decide (0 < k) = false := by simp; omega
      rw [if_neg (by omega)] at hel
      clear hk0 HP
      by_cases hm : m < 0 ∨ 50 < m
      · rw [if_pos (by omega)] at hel
        have HF2 : Hid (seatsF L = 1) := hide (by rw [HY.out (by omega), hel])
        clear hel
        go_wp2_with (((go_at_call 32; with_reducible refine (HNM.out _).mono ?_); rintro e w' ⟨rfl, rfl⟩))
        go_quiet (fail)
        go_wp2_with (first | ((go_at_call 33; with_reducible refine (within_yes ?_ _).mono ?_); (focus omega); rintro e w' ⟨rfl, rfl⟩) | ((go_at_call 33; with_reducible refine (within_no ?_ _).mono ?_); (focus omega); rintro e w' ⟨rfl, rfl⟩))
        go_ret
        exact ⟨ret_int HF2.out.symm, Ext.trans HX.out (by repeat' (first | (with_reducible exact Below.refl _ _) | (with_reducible assumption) | (with_reducible refine below_drewN ?_ _) | (with_reducible refine Below.drew ?_) | (with_reducible refine ext_alloc ?_ _) | (with_reducible refine Below.setCell ?_ ?_ _) | go_size))⟩
      have hm' : 0 ≤ m ∧ m ≤ 50 := by omega
      by_cases hg : g < 1 ∨ 1000000000000000 < g
      · rw [if_pos (by omega)] at hel
        have HF2 : Hid (seatsF L = 1) := hide (by rw [HY.out (by omega), hel])
        clear hel hm
        go_wp2_with (((go_at_call 32; with_reducible refine (HNM.out _).mono ?_); rintro e w' ⟨rfl, rfl⟩))
        go_quiet (fail)
        go_wp2_with (first | ((go_at_call 33; with_reducible refine (within_yes ?_ _).mono ?_); (focus omega); rintro e w' ⟨rfl, rfl⟩) | ((go_at_call 33; with_reducible refine (within_no ?_ _).mono ?_); (focus omega); rintro e w' ⟨rfl, rfl⟩))
        go_ret
        exact ⟨ret_int HF2.out.symm, Ext.trans HX.out (by repeat' (first | (with_reducible exact Below.refl _ _) | (with_reducible assumption) | (with_reducible refine below_drewN ?_ _) | (with_reducible refine Below.drew ?_) | (with_reducible refine ext_alloc ?_ _) | (with_reducible refine Below.setCell ?_ ?_ _) | go_size))⟩
      have hg' : 1 ≤ g ∧ g ≤ 1000000000000000 := by omega
      rw [if_neg (by omega)] at hel
      have HN2 := hide (HN.out hel)
      clear hel hm hg
      go_wp2_with (((go_at_call 32; with_reducible refine (HNM.out _).mono ?_); rintro e w' ⟨rfl, rfl⟩))
      go_quiet (fail)
      go_wp2_with (first | ((go_at_call 33; with_reducible refine (within_yes ?_ _).mono ?_); (focus omega); rintro e w' ⟨rfl, rfl⟩) | ((go_at_call 33; with_reducible refine (within_no ?_ _).mono ?_); (focus omega); rintro e w' ⟨rfl, rfl⟩))
      go_roundw
      case rel => exact ⟨k + 1, by omega, by go_num, HN2, hide (Ext.trans HX.out (by repeat' (first | (with_reducible exact Below.refl _ _) | (with_reducible assumption) | (with_reducible refine below_drewN ?_ _) | (with_reducible refine Below.drew ?_) | (with_reducible refine ext_alloc ?_ _) | (with_reducible refine Below.setCell ?_ ?_ _) | go_size)))⟩
      case measure => simp [intOf]; omega
    have g0 : decide ((0 : Int) < (k : Int)) = true := by simp; omega
    have g00 : decide (0 < k) = true := by simp; omega
    have j2 : IntKind.i64.wrap ((k : Int) - 1) = (k : Int) - 1 := by rw [IntKind.wrap_i64]; omega
    have j3 : ((k : Int) - 1).toNat = k - 1 := by omega
    have j4 : 0 ≤ (k : Int) - 1 := by omega
    have j5 : (k : Int) - 1 < (n : Int) := by omega
    have j7 : 1 ≤ (k : Int) := by omega
    have j8 : (k : Int) ≤ (n : Int) := by omega
    have p0 := HP.out hk0
    simp only [Nat.add_zero] at p0
    generalize (L.getD (k - 1) d0S).1 = v at *
    have p1 := (Ext.alloc wr (.cells #[.string u, .int .i64 m, .int .i64 g] 61)).cell p0
    clear HP p0
    by_cases hv : sLe u v = true
    · rw [if_pos ⟨hk0, hv⟩] at hel
      have HF2 : Hid (seatsF L = 8) := hide (by rw [HY.out (by omega), hel])
      unfold sLe at hv
      clear hel
      go_wp2_with (((go_at_call 32; with_reducible refine (HNM.out _).mono ?_); rintro e w' ⟨rfl, rfl⟩))
      go_quiet (fail)
      go_wp2_with (first | ((go_at_call 33; with_reducible refine (within_yes ?_ _).mono ?_); (focus omega); rintro e w' ⟨rfl, rfl⟩) | ((go_at_call 33; with_reducible refine (within_no ?_ _).mono ?_); (focus omega); rintro e w' ⟨rfl, rfl⟩))
      go_ret
      exact ⟨ret_int HF2.out.symm, Ext.trans HX.out (by repeat' (first | (with_reducible exact Below.refl _ _) | (with_reducible assumption) | (with_reducible refine below_drewN ?_ _) | (with_reducible refine Below.drew ?_) | (with_reducible refine ext_alloc ?_ _) | (with_reducible refine Below.setCell ?_ ?_ _) | go_size))⟩
    rw [if_neg (by intro h; exact hv h.2)] at hel
    have hv' : sLe u v = false := by simpa using hv
    unfold sLe at hv'
    clear hv
    by_cases hm : m < 0 ∨ 50 < m
    · rw [if_pos (by omega)] at hel
      have HF2 : Hid (seatsF L = 1) := hide (by rw [HY.out (by omega), hel])
      clear hel
      go_wp2_with (((go_at_call 32; with_reducible refine (HNM.out _).mono ?_); rintro e w' ⟨rfl, rfl⟩))
      go_quiet (fail)
      go_wp2_with (first | ((go_at_call 33; with_reducible refine (within_yes ?_ _).mono ?_); (focus omega); rintro e w' ⟨rfl, rfl⟩) | ((go_at_call 33; with_reducible refine (within_no ?_ _).mono ?_); (focus omega); rintro e w' ⟨rfl, rfl⟩))
      go_ret
      exact ⟨ret_int HF2.out.symm, Ext.trans HX.out (by repeat' (first | (with_reducible exact Below.refl _ _) | (with_reducible assumption) | (with_reducible refine below_drewN ?_ _) | (with_reducible refine Below.drew ?_) | (with_reducible refine ext_alloc ?_ _) | (with_reducible refine Below.setCell ?_ ?_ _) | go_size))⟩
    have hm' : 0 ≤ m ∧ m ≤ 50 := by omega
    by_cases hg : g < 1 ∨ 1000000000000000 < g
    · rw [if_pos (by omega)] at hel
      have HF2 : Hid (seatsF L = 1) := hide (by rw [HY.out (by omega), hel])
      clear hel hm
      go_wp2_with (((go_at_call 32; with_reducible refine (HNM.out _).mono ?_); rintro e w' ⟨rfl, rfl⟩))
      go_quiet (fail)
      go_wp2_with (first | ((go_at_call 33; with_reducible refine (within_yes ?_ _).mono ?_); (focus omega); rintro e w' ⟨rfl, rfl⟩) | ((go_at_call 33; with_reducible refine (within_no ?_ _).mono ?_); (focus omega); rintro e w' ⟨rfl, rfl⟩))
      go_ret
      exact ⟨ret_int HF2.out.symm, Ext.trans HX.out (by repeat' (first | (with_reducible exact Below.refl _ _) | (with_reducible assumption) | (with_reducible refine below_drewN ?_ _) | (with_reducible refine Below.drew ?_) | (with_reducible refine ext_alloc ?_ _) | (with_reducible refine Below.setCell ?_ ?_ _) | go_size))⟩
    have hg' : 1 ≤ g ∧ g ≤ 1000000000000000 := by omega
    rw [if_neg (by omega)] at hel
    have HN2 := hide (HN.out hel)
    clear hel hm hg
    go_wp2_with (((go_at_call 32; with_reducible refine (HNM.out _).mono ?_); rintro e w' ⟨rfl, rfl⟩))
    go_quiet (fail)
    go_wp2_with (first | ((go_at_call 33; with_reducible refine (within_yes ?_ _).mono ?_); (focus omega); rintro e w' ⟨rfl, rfl⟩) | ((go_at_call 33; with_reducible refine (within_no ?_ _).mono ?_); (focus omega); rintro e w' ⟨rfl, rfl⟩))
    go_roundw
    case rel => exact ⟨k + 1, by omega, by go_num, HN2, hide (Ext.trans HX.out (by repeat' (first | (with_reducible exact Below.refl _ _) | (with_reducible assumption) | (with_reducible refine below_drewN ?_ _) | (with_reducible refine Below.drew ?_) | (with_reducible refine ext_alloc ?_ _) | (with_reducible refine Below.setCell ?_ ?_ _) | go_size)))⟩
    case measure => simp [intOf]; omega
end Go.Proofs.Ytfpmjaeehhegcaa
