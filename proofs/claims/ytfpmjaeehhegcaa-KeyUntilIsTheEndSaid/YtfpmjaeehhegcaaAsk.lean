/- Walks: asksFault of the program, checkAsks of the reference. Conditions: strings are no longer than strings can be. -/
import Derived.Test.YtfpmjaeehhegcaaSeat
namespace Go.Proofs.Ytfpmjaeehhegcaa
open Go.RowKit

abbrev AskV := Int × ByteArray × ByteArray × Int
abbrev eA (x : AskV) : List Value := [.int .i64 x.1, .string x.2.1, .string x.2.2.1, .int .i64 x.2.2.2]
abbrev d0A : AskV := (0, ByteArray.empty, ByteArray.empty, 0)
def okA (x : AskV) : Prop := x.2.1.size ≤ maxLen ∧ x.2.2.1.size ≤ maxLen
def askEl (Q : List AskV) (i : Nat) : Int :=
  if (Q.getD i d0A).1 < 0 ∨ 1000000000000000 < (Q.getD i d0A).1 then 1
  else if nameB (Q.getD i d0A).2.1 = false ∨ nameB (Q.getD i d0A).2.2.1 = false then 5
  else if (Q.getD i d0A).2.2.2 < 1 ∨ 3 < (Q.getD i d0A).2.2.2 then 4
  else if 0 < i ∧ (Q.getD i d0A).1 < (Q.getD (i - 1) d0A).1 then 8 else 0
def asksF (L : List SeatV) (Q : List AskV) : Int := if seatsF L ≠ 0 then seatsF L else if 2000 < Q.length then 2 else firstF (askEl Q) Q.length
set_option maxRecDepth 100000 in
set_option maxHeartbeats 8000000 in
theorem keyAsks_any {A B : Option Addr} {n c m d : Nat} {L : List SeatV} {Q : List AskV} {w : World} (h : At w 3 eS A n c L) (hg : ∀ x ∈ L, okS x) (h2 : At w 4 eA B m d Q) (hq : ∀ x ∈ Q, okA x) :
    Calls Try.prog 23 #[.slice A n c, .slice B m d] w fun e w' => e = .returned (.int .i64 (asksF L Q)) ∧ Ext w w' := by
  have hb := h2.bound
  have HLN := hide h2.len
  have HS := hide (keySeats_any h hg)
  have H := hide h2
  have HG := hide hq
  clear h hg h2 hq
  by_cases hs : seatsF L = 0
  rotate_left
  · have HF : Hid (asksF L Q = seatsF L) := hide (by unfold asksF; rw [if_pos hs])
    have hs' : (seatsF L != 0) = true := by rw [bne_iff_ne]; exact hs
    generalize seatsF L = r at *
    clear hs
    go_enter Try.func23, Try.ntmps23
    go_wp2_with fail
    refine HS.out.mono ?_
    rintro e w1 ⟨rfl, e1⟩
    go_wp2_with fail
    go_ret
    exact ⟨ret_int HF.out.symm, e1⟩
  rw [hs] at HS
  by_cases hm : 2000 < m
  · have HF : Hid (asksF L Q = 2) := hide (by unfold asksF; rw [if_neg (by omega), if_pos (by have := HLN.out; omega)])
    clear hs
    go_enter Try.func23, Try.ntmps23
    go_wp2_with fail
    refine HS.out.mono ?_
    rintro e w1 ⟨rfl, e1⟩
    go_wp2_with fail
    go_ret
    exact ⟨ret_int HF.out.symm, e1⟩
  have HF : Hid (asksF L Q = firstF (askEl Q) m) := hide (by unfold asksF; rw [if_neg (by omega), if_neg (by have := HLN.out; omega), HLN.out])
  clear hs
  go_enter Try.func23, Try.ntmps23
  go_wp2_with fail
  refine HS.out.mono ?_
  rintro e w1 ⟨rfl, e1⟩
  have E1 := hide e1
  clear e1
  go_wp2_with fail
  go_loopw [18] (fun ri wr => ∃ k : Nat, k ≤ m ∧ ri = .int .i64 k ∧ Hid (∀ j, j < k → askEl Q j = 0) ∧ Hid (Ext w wr)) (fun ri _ => m - (intOf ri).toNat)
  case atStart => exact ⟨0, by omega, rfl, hide (fun j hj => by omega), E1⟩
  case round =>
    obtain ⟨k, hk, rfl, HZ, HX⟩ := hrel
    by_cases hlt : k < m
    rotate_left
    · have HF2 : Hid (asksF L Q = 0) := hide (by rw [HF.out, firstF_zero (fun j hj => HZ.out j (by omega))])
      go_wp2_with fail
      go_ret
      exact ⟨ret_int HF2.out.symm, HX.out⟩
    have HW := hide (H.out.ext HX.out)
    obtain ⟨b, off, rfl, _⟩ := H.out.addr (by omega)
    have a0 := HW.out.cellK hlt d0A 0 _ rfl
    have a1 := HW.out.cellK hlt d0A 1 _ rfl
    have a2 := HW.out.cellK hlt d0A 2 _ rfl
    have a3 := HW.out.cellK hlt d0A 3 _ rfl
    simp only [Nat.add_zero] at a0
    have hsz := HG.out _ (getD_mem Q k d0A (by have := HLN.out; omega))
    have HN1 := hide (fun (W : World) => isName_any (Q.getD k d0A).2.1 hsz.1 W)
    have HN2 := hide (fun (W : World) => isName_any (Q.getD k d0A).2.2.1 hsz.2 W)
    have HP := hide (fun (h0 : 0 < k) => HW.out.cellK (k := k - 1) (by omega) d0A 0 _ rfl)
    have hel : askEl Q k = if (Q.getD k d0A).1 < 0 ∨ 1000000000000000 < (Q.getD k d0A).1 then 1
      else if nameB (Q.getD k d0A).2.1 = false ∨ nameB (Q.getD k d0A).2.2.1 = false then 5
      else if (Q.getD k d0A).2.2.2 < 1 ∨ 3 < (Q.getD k d0A).2.2.2 then 4
      else if 0 < k ∧ (Q.getD k d0A).1 < (Q.getD (k - 1) d0A).1 then 8 else 0 := rfl
    have HY : Hid (askEl Q k ≠ 0 → asksF L Q = askEl Q k) := hide (fun hz => by rw [HF.out, firstF_at HZ.out hz hlt])
    have HN : Hid (askEl Q k = 0 → ∀ j, j < k + 1 → askEl Q j = 0) := hide (fun hz j hj => by
      rcases Nat.lt_succ_iff_lt_or_eq.1 hj with h | h
      · exact HZ.out j h
      · rw [h]; exact hz)
    generalize askEl Q k = z at *
    generalize Q.getD k d0A = x at *
    obtain ⟨t, u, s, q⟩ := x
    simp only at a0 a1 a2 a3 hel hsz HN1 HN2
    clear hsz
    by_cases ht : t < 0 ∨ 1000000000000000 < t
    · rw [if_pos ht] at hel
      have HF2 : Hid (asksF L Q = 1) := hide (by rw [HY.out (by omega), hel])
      clear hel
      go_wp2_with (first | ((go_at_call 27; with_reducible refine (HN1.out _).mono ?_); rintro e w' ⟨rfl, rfl⟩) | ((go_at_call 27; with_reducible refine (HN2.out _).mono ?_); rintro e w' ⟨rfl, rfl⟩) | ((go_at_call 28; with_reducible refine (out_no ?_ _).mono ?_); (focus omega); rintro e w' ⟨rfl, rfl⟩) | ((go_at_call 28; with_reducible refine (out_yes ?_ _).mono ?_); (focus omega); rintro e w' ⟨rfl, rfl⟩))
      go_ret
      exact ⟨ret_int HF2.out.symm, Ext.trans HX.out (by repeat' (first | (with_reducible exact Below.refl _ _) | (with_reducible assumption) | (with_reducible refine below_drewN ?_ _) | (with_reducible refine Below.drew ?_) | (with_reducible refine ext_alloc ?_ _) | (with_reducible refine Below.setCell ?_ ?_ _) | go_size))⟩
    have ht' : 0 ≤ t ∧ t ≤ 1000000000000000 := by omega
    rw [if_neg ht] at hel
    clear ht
    cases hu : nameB u with
    | false =>
      rw [if_pos (.inl hu)] at hel
      rw [hu] at HN1
      have HF2 : Hid (asksF L Q = 5) := hide (by rw [HY.out (by omega), hel])
      clear hel hu
      go_wp2_with (first | ((go_at_call 27; with_reducible refine (HN1.out _).mono ?_); rintro e w' ⟨rfl, rfl⟩) | ((go_at_call 27; with_reducible refine (HN2.out _).mono ?_); rintro e w' ⟨rfl, rfl⟩) | ((go_at_call 28; with_reducible refine (out_no ?_ _).mono ?_); (focus omega); rintro e w' ⟨rfl, rfl⟩) | ((go_at_call 28; with_reducible refine (out_yes ?_ _).mono ?_); (focus omega); rintro e w' ⟨rfl, rfl⟩))
      go_ret
      exact ⟨ret_int HF2.out.symm, Ext.trans HX.out (by repeat' (first | (with_reducible exact Below.refl _ _) | (with_reducible assumption) | (with_reducible refine below_drewN ?_ _) | (with_reducible refine Below.drew ?_) | (with_reducible refine ext_alloc ?_ _) | (with_reducible refine Below.setCell ?_ ?_ _) | go_size))⟩
    | true =>
    rw [hu] at HN1
    cases hv : nameB s with
    | false =>
      rw [if_pos (.inr hv)] at hel
      rw [hv] at HN2
      have HF2 : Hid (asksF L Q = 5) := hide (by rw [HY.out (by omega), hel])
      clear hel hu hv
      go_wp2_with (first | ((go_at_call 27; with_reducible refine (HN1.out _).mono ?_); rintro e w' ⟨rfl, rfl⟩) | ((go_at_call 27; with_reducible refine (HN2.out _).mono ?_); rintro e w' ⟨rfl, rfl⟩) | ((go_at_call 28; with_reducible refine (out_no ?_ _).mono ?_); (focus omega); rintro e w' ⟨rfl, rfl⟩) | ((go_at_call 28; with_reducible refine (out_yes ?_ _).mono ?_); (focus omega); rintro e w' ⟨rfl, rfl⟩))
      go_ret
      exact ⟨ret_int HF2.out.symm, Ext.trans HX.out (by repeat' (first | (with_reducible exact Below.refl _ _) | (with_reducible assumption) | (with_reducible refine below_drewN ?_ _) | (with_reducible refine Below.drew ?_) | (with_reducible refine ext_alloc ?_ _) | (with_reducible refine Below.setCell ?_ ?_ _) | go_size))⟩
    | true =>
    rw [hv] at HN2
    rw [if_neg (by simp [hu, hv])] at hel
    clear hu hv
    by_cases hk4 : q < 1 ∨ 3 < q
    · rw [if_pos hk4] at hel
      have HF2 : Hid (asksF L Q = 4) := hide (by rw [HY.out (by omega), hel])
      clear hel
      go_wp2_with (first | ((go_at_call 27; with_reducible refine (HN1.out _).mono ?_); rintro e w' ⟨rfl, rfl⟩) | ((go_at_call 27; with_reducible refine (HN2.out _).mono ?_); rintro e w' ⟨rfl, rfl⟩) | ((go_at_call 28; with_reducible refine (out_no ?_ _).mono ?_); (focus omega); rintro e w' ⟨rfl, rfl⟩) | ((go_at_call 28; with_reducible refine (out_yes ?_ _).mono ?_); (focus omega); rintro e w' ⟨rfl, rfl⟩))
      go_ret
      exact ⟨ret_int HF2.out.symm, Ext.trans HX.out (by repeat' (first | (with_reducible exact Below.refl _ _) | (with_reducible assumption) | (with_reducible refine below_drewN ?_ _) | (with_reducible refine Below.drew ?_) | (with_reducible refine ext_alloc ?_ _) | (with_reducible refine Below.setCell ?_ ?_ _) | go_size))⟩
    have hk4' : 1 ≤ q ∧ q ≤ 3 := by omega
    rw [if_neg hk4] at hel
    clear hk4
    rcases Nat.eq_zero_or_pos k with hk0 | hk0
    · have g0 : decide ((0 : Int) < (k : Int)) = false := by simp; omega
      have g00 : decide (0 < k) = false := by simp; omega
      rw [if_neg (by omega)] at hel
      clear hk0 HP
      have HN3 := hide (HN.out hel)
      clear hel
      go_wp2_with (first | ((go_at_call 27; with_reducible refine (HN1.out _).mono ?_); rintro e w' ⟨rfl, rfl⟩) | ((go_at_call 27; with_reducible refine (HN2.out _).mono ?_); rintro e w' ⟨rfl, rfl⟩) | ((go_at_call 28; with_reducible refine (out_no ?_ _).mono ?_); (focus omega); rintro e w' ⟨rfl, rfl⟩) | ((go_at_call 28; with_reducible refine (out_yes ?_ _).mono ?_); (focus omega); rintro e w' ⟨rfl, rfl⟩))
      go_quiet (fail)
      go_wp2_with fail
      go_roundw
      case rel => exact ⟨k + 1, by omega, by go_num, HN3, hide (Ext.trans HX.out (by repeat' (first | (with_reducible exact Below.refl _ _) | (with_reducible assumption) | (with_reducible refine below_drewN ?_ _) | (with_reducible refine Below.drew ?_) | (with_reducible refine ext_alloc ?_ _) | (with_reducible refine Below.setCell ?_ ?_ _) | go_size)))⟩
      case measure => simp [intOf]; omega
    have g0 : decide ((0 : Int) < (k : Int)) = true := by simp; omega
    have g00 : decide (0 < k) = true := by simp; omega
    have j2 : IntKind.i64.wrap ((k : Int) - 1) = (k : Int) - 1 := by rw [IntKind.wrap_i64]; omega
    have j3 : ((k : Int) - 1).toNat = k - 1 := by omega
    have j4 : 0 ≤ (k : Int) - 1 := by omega
    have j5 : (k : Int) - 1 < (m : Int) := by omega
    have j7 : 1 ≤ (k : Int) := by omega
    have j8 : (k : Int) ≤ (m : Int) := by omega
    have p0 := HP.out hk0
    simp only [Nat.add_zero] at p0
    generalize (Q.getD (k - 1) d0A).1 = v at *
    have p1 := (Ext.alloc wr (.cells #[.int .i64 t, .string u, .string s, .int .i64 q] 33)).cell p0
    clear HP p0
    by_cases hv : t < v
    · have g1 : decide (t < v) = true := by simpa using hv
      rw [if_pos ⟨hk0, hv⟩] at hel
      have HF2 : Hid (asksF L Q = 8) := hide (by rw [HY.out (by omega), hel])
      clear hel
      go_wp2_with (first | ((go_at_call 27; with_reducible refine (HN1.out _).mono ?_); rintro e w' ⟨rfl, rfl⟩) | ((go_at_call 27; with_reducible refine (HN2.out _).mono ?_); rintro e w' ⟨rfl, rfl⟩) | ((go_at_call 28; with_reducible refine (out_no ?_ _).mono ?_); (focus omega); rintro e w' ⟨rfl, rfl⟩) | ((go_at_call 28; with_reducible refine (out_yes ?_ _).mono ?_); (focus omega); rintro e w' ⟨rfl, rfl⟩))
      go_quiet (fail)
      go_wp2_with fail
      go_ret
      exact ⟨ret_int HF2.out.symm, Ext.trans HX.out (by repeat' (first | (with_reducible exact Below.refl _ _) | (with_reducible assumption) | (with_reducible refine below_drewN ?_ _) | (with_reducible refine Below.drew ?_) | (with_reducible refine ext_alloc ?_ _) | (with_reducible refine Below.setCell ?_ ?_ _) | go_size))⟩
    have g1 : decide (t < v) = false := by simpa using hv
    rw [if_neg (by omega)] at hel
    have HN3 := hide (HN.out hel)
    clear hel
    go_wp2_with (first | ((go_at_call 27; with_reducible refine (HN1.out _).mono ?_); rintro e w' ⟨rfl, rfl⟩) | ((go_at_call 27; with_reducible refine (HN2.out _).mono ?_); rintro e w' ⟨rfl, rfl⟩) | ((go_at_call 28; with_reducible refine (out_no ?_ _).mono ?_); (focus omega); rintro e w' ⟨rfl, rfl⟩) | ((go_at_call 28; with_reducible refine (out_yes ?_ _).mono ?_); (focus omega); rintro e w' ⟨rfl, rfl⟩))
    go_quiet (fail)
    go_wp2_with fail
    go_roundw
    case rel => exact ⟨k + 1, by omega, by go_num, HN3, hide (Ext.trans HX.out (by repeat' (first | (with_reducible exact Below.refl _ _) | (with_reducible assumption) | (with_reducible refine below_drewN ?_ _) | (with_reducible refine Below.drew ?_) | (with_reducible refine ext_alloc ?_ _) | (with_reducible refine Below.setCell ?_ ?_ _) | go_size)))⟩
    case measure => simp [intOf]; omega
set_option maxRecDepth 100000 in
set_option maxHeartbeats 8000000 in
theorem refAsks_any {A B : Option Addr} {n c m d : Nat} {L : List SeatV} {Q : List AskV} {w : World} (h : At w 3 eS A n c L) (hg : ∀ x ∈ L, okS x) (h2 : At w 4 eA B m d Q) (hq : ∀ x ∈ Q, okA x) :
    Calls Try.prog 30 #[.slice A n c, .slice B m d] w fun e w' => e = .returned (.int .i64 (asksF L Q)) ∧ Ext w w' := by
  have hb := h2.bound
  have HLN := hide h2.len
  have HS := hide (refSeats_any h hg)
  have H := hide h2
  have HG := hide hq
  clear h hg h2 hq
  by_cases hs : seatsF L = 0
  rotate_left
  · have HF : Hid (asksF L Q = seatsF L) := hide (by unfold asksF; rw [if_pos hs])
    have hs' : (seatsF L != 0) = true := by rw [bne_iff_ne]; exact hs
    generalize seatsF L = r at *
    clear hs
    go_enter Try.func30, Try.ntmps30
    go_wp2_with fail
    refine HS.out.mono ?_
    rintro e w1 ⟨rfl, e1⟩
    go_wp2_with fail
    go_ret
    exact ⟨ret_int HF.out.symm, e1⟩
  rw [hs] at HS
  by_cases hm : 2000 < m
  · have HF : Hid (asksF L Q = 2) := hide (by unfold asksF; rw [if_neg (by omega), if_pos (by have := HLN.out; omega)])
    clear hs
    go_enter Try.func30, Try.ntmps30
    go_wp2_with fail
    refine HS.out.mono ?_
    rintro e w1 ⟨rfl, e1⟩
    go_wp2_with fail
    go_ret
    exact ⟨ret_int HF.out.symm, e1⟩
  have HF : Hid (asksF L Q = firstF (askEl Q) m) := hide (by unfold asksF; rw [if_neg (by omega), if_neg (by have := HLN.out; omega), HLN.out])
  clear hs
  go_enter Try.func30, Try.ntmps30
  go_wp2_with fail
  refine HS.out.mono ?_
  rintro e w1 ⟨rfl, e1⟩
  have E1 := hide e1
  clear e1
  go_wp2_with fail
  go_loopw [18] (fun ri wr => ∃ k : Nat, k ≤ m ∧ ri = .int .i64 k ∧ Hid (∀ j, j < k → askEl Q j = 0) ∧ Hid (Ext w wr)) (fun ri _ => m - (intOf ri).toNat)
  case atStart => exact ⟨0, by omega, rfl, hide (fun j hj => by omega), E1⟩
  case round =>
    obtain ⟨k, hk, rfl, HZ, HX⟩ := hrel
    by_cases hlt : k < m
    rotate_left
    · have HF2 : Hid (asksF L Q = 0) := hide (by rw [HF.out, firstF_zero (fun j hj => HZ.out j (by omega))])
      go_wp2_with fail
      go_ret
      exact ⟨ret_int HF2.out.symm, HX.out⟩
    have HW := hide (H.out.ext HX.out)
    obtain ⟨b, off, rfl, _⟩ := H.out.addr (by omega)
    have a0 := HW.out.cellK hlt d0A 0 _ rfl
    have a1 := HW.out.cellK hlt d0A 1 _ rfl
    have a2 := HW.out.cellK hlt d0A 2 _ rfl
    have a3 := HW.out.cellK hlt d0A 3 _ rfl
    simp only [Nat.add_zero] at a0
    have hsz := HG.out _ (getD_mem Q k d0A (by have := HLN.out; omega))
    have HN1 := hide (fun (W : World) => refName_any (Q.getD k d0A).2.1 hsz.1 W)
    have HN2 := hide (fun (W : World) => refName_any (Q.getD k d0A).2.2.1 hsz.2 W)
    have HP := hide (fun (h0 : 0 < k) => HW.out.cellK (k := k - 1) (by omega) d0A 0 _ rfl)
    have hel : askEl Q k = if (Q.getD k d0A).1 < 0 ∨ 1000000000000000 < (Q.getD k d0A).1 then 1
      else if nameB (Q.getD k d0A).2.1 = false ∨ nameB (Q.getD k d0A).2.2.1 = false then 5
      else if (Q.getD k d0A).2.2.2 < 1 ∨ 3 < (Q.getD k d0A).2.2.2 then 4
      else if 0 < k ∧ (Q.getD k d0A).1 < (Q.getD (k - 1) d0A).1 then 8 else 0 := rfl
    have HY : Hid (askEl Q k ≠ 0 → asksF L Q = askEl Q k) := hide (fun hz => by rw [HF.out, firstF_at HZ.out hz hlt])
    have HN : Hid (askEl Q k = 0 → ∀ j, j < k + 1 → askEl Q j = 0) := hide (fun hz j hj => by
      rcases Nat.lt_succ_iff_lt_or_eq.1 hj with h | h
      · exact HZ.out j h
      · rw [h]; exact hz)
    generalize askEl Q k = z at *
    generalize Q.getD k d0A = x at *
    obtain ⟨t, u, s, q⟩ := x
    simp only at a0 a1 a2 a3 hel hsz HN1 HN2
    clear hsz
    by_cases ht : t < 0 ∨ 1000000000000000 < t
    · rw [if_pos ht] at hel
      have HF2 : Hid (asksF L Q = 1) := hide (by rw [HY.out (by omega), hel])
      clear hel
      go_wp2_with (first | ((go_at_call 32; with_reducible refine (HN1.out _).mono ?_); rintro e w' ⟨rfl, rfl⟩) | ((go_at_call 32; with_reducible refine (HN2.out _).mono ?_); rintro e w' ⟨rfl, rfl⟩) | ((go_at_call 33; with_reducible refine (within_yes ?_ _).mono ?_); (focus omega); rintro e w' ⟨rfl, rfl⟩) | ((go_at_call 33; with_reducible refine (within_no ?_ _).mono ?_); (focus omega); rintro e w' ⟨rfl, rfl⟩))
      go_ret
      exact ⟨ret_int HF2.out.symm, Ext.trans HX.out (by repeat' (first | (with_reducible exact Below.refl _ _) | (with_reducible assumption) | (with_reducible refine below_drewN ?_ _) | (with_reducible refine Below.drew ?_) | (with_reducible refine ext_alloc ?_ _) | (with_reducible refine Below.setCell ?_ ?_ _) | go_size))⟩
    have ht' : 0 ≤ t ∧ t ≤ 1000000000000000 := by omega
    rw [if_neg ht] at hel
    clear ht
    cases hu : nameB u with
    | false =>
      rw [if_pos (.inl hu)] at hel
      rw [hu] at HN1
      have HF2 : Hid (asksF L Q = 5) := hide (by rw [HY.out (by omega), hel])
      clear hel hu
      go_wp2_with (first | ((go_at_call 32; with_reducible refine (HN1.out _).mono ?_); rintro e w' ⟨rfl, rfl⟩) | ((go_at_call 32; with_reducible refine (HN2.out _).mono ?_); rintro e w' ⟨rfl, rfl⟩) | ((go_at_call 33; with_reducible refine (within_yes ?_ _).mono ?_); (focus omega); rintro e w' ⟨rfl, rfl⟩) | ((go_at_call 33; with_reducible refine (within_no ?_ _).mono ?_); (focus omega); rintro e w' ⟨rfl, rfl⟩))
      go_ret
      exact ⟨ret_int HF2.out.symm, Ext.trans HX.out (by repeat' (first | (with_reducible exact Below.refl _ _) | (with_reducible assumption) | (with_reducible refine below_drewN ?_ _) | (with_reducible refine Below.drew ?_) | (with_reducible refine ext_alloc ?_ _) | (with_reducible refine Below.setCell ?_ ?_ _) | go_size))⟩
    | true =>
    rw [hu] at HN1
    cases hv : nameB s with
    | false =>
      rw [if_pos (.inr hv)] at hel
      rw [hv] at HN2
      have HF2 : Hid (asksF L Q = 5) := hide (by rw [HY.out (by omega), hel])
      clear hel hu hv
      go_wp2_with (first | ((go_at_call 32; with_reducible refine (HN1.out _).mono ?_); rintro e w' ⟨rfl, rfl⟩) | ((go_at_call 32; with_reducible refine (HN2.out _).mono ?_); rintro e w' ⟨rfl, rfl⟩) | ((go_at_call 33; with_reducible refine (within_yes ?_ _).mono ?_); (focus omega); rintro e w' ⟨rfl, rfl⟩) | ((go_at_call 33; with_reducible refine (within_no ?_ _).mono ?_); (focus omega); rintro e w' ⟨rfl, rfl⟩))
      go_ret
      exact ⟨ret_int HF2.out.symm, Ext.trans HX.out (by repeat' (first | (with_reducible exact Below.refl _ _) | (with_reducible assumption) | (with_reducible refine below_drewN ?_ _) | (with_reducible refine Below.drew ?_) | (with_reducible refine ext_alloc ?_ _) | (with_reducible refine Below.setCell ?_ ?_ _) | go_size))⟩
    | true =>
    rw [hv] at HN2
    rw [if_neg (by simp [hu, hv])] at hel
    clear hu hv
    by_cases hk4 : q < 1 ∨ 3 < q
    · rw [if_pos hk4] at hel
      have HF2 : Hid (asksF L Q = 4) := hide (by rw [HY.out (by omega), hel])
      clear hel
      go_wp2_with (first | ((go_at_call 32; with_reducible refine (HN1.out _).mono ?_); rintro e w' ⟨rfl, rfl⟩) | ((go_at_call 32; with_reducible refine (HN2.out _).mono ?_); rintro e w' ⟨rfl, rfl⟩) | ((go_at_call 33; with_reducible refine (within_yes ?_ _).mono ?_); (focus omega); rintro e w' ⟨rfl, rfl⟩) | ((go_at_call 33; with_reducible refine (within_no ?_ _).mono ?_); (focus omega); rintro e w' ⟨rfl, rfl⟩))
      go_ret
      exact ⟨ret_int HF2.out.symm, Ext.trans HX.out (by repeat' (first | (with_reducible exact Below.refl _ _) | (with_reducible assumption) | (with_reducible refine below_drewN ?_ _) | (with_reducible refine Below.drew ?_) | (with_reducible refine ext_alloc ?_ _) | (with_reducible refine Below.setCell ?_ ?_ _) | go_size))⟩
    have hk4' : 1 ≤ q ∧ q ≤ 3 := by omega
    rw [if_neg hk4] at hel
    clear hk4
    rcases Nat.eq_zero_or_pos k with hk0 | hk0
    · have g0 : decide ((0 : Int) < (k : Int)) = false := by simp; omega
      have g00 : decide (0 < k) = false := by simp; omega
      rw [if_neg (by omega)] at hel
      clear hk0 HP
      have HN3 := hide (HN.out hel)
      clear hel
      go_wp2_with (first | ((go_at_call 32; with_reducible refine (HN1.out _).mono ?_); rintro e w' ⟨rfl, rfl⟩) | ((go_at_call 32; with_reducible refine (HN2.out _).mono ?_); rintro e w' ⟨rfl, rfl⟩) | ((go_at_call 33; with_reducible refine (within_yes ?_ _).mono ?_); (focus omega); rintro e w' ⟨rfl, rfl⟩) | ((go_at_call 33; with_reducible refine (within_no ?_ _).mono ?_); (focus omega); rintro e w' ⟨rfl, rfl⟩))
      go_quiet (fail)
      go_wp2_with fail
      go_roundw
      case rel => exact ⟨k + 1, by omega, by go_num, HN3, hide (Ext.trans HX.out (by repeat' (first | (with_reducible exact Below.refl _ _) | (with_reducible assumption) | (with_reducible refine below_drewN ?_ _) | (with_reducible refine Below.drew ?_) | (with_reducible refine ext_alloc ?_ _) | (with_reducible refine Below.setCell ?_ ?_ _) | go_size)))⟩
      case measure => simp [intOf]; omega
    have g0 : decide ((0 : Int) < (k : Int)) = true := by simp; omega
    have g00 : decide (0 < k) = true := by simp; omega
    have j2 : IntKind.i64.wrap ((k : Int) - 1) = (k : Int) - 1 := by rw [IntKind.wrap_i64]; omega
    have j3 : ((k : Int) - 1).toNat = k - 1 := by omega
    have j4 : 0 ≤ (k : Int) - 1 := by omega
    have j5 : (k : Int) - 1 < (m : Int) := by omega
    have j7 : 1 ≤ (k : Int) := by omega
    have j8 : (k : Int) ≤ (m : Int) := by omega
    have p0 := HP.out hk0
    simp only [Nat.add_zero] at p0
    generalize (Q.getD (k - 1) d0A).1 = v at *
    have p1 := (Ext.alloc wr (.cells #[.int .i64 t, .string u, .string s, .int .i64 q] 33)).cell p0
    clear HP p0
    by_cases hv : t < v
    · have g1 : decide (t < v) = true := by simpa using hv
      rw [if_pos ⟨hk0, hv⟩] at hel
      have HF2 : Hid (asksF L Q = 8) := hide (by rw [HY.out (by omega), hel])
      clear hel
      go_wp2_with (first | ((go_at_call 32; with_reducible refine (HN1.out _).mono ?_); rintro e w' ⟨rfl, rfl⟩) | ((go_at_call 32; with_reducible refine (HN2.out _).mono ?_); rintro e w' ⟨rfl, rfl⟩) | ((go_at_call 33; with_reducible refine (within_yes ?_ _).mono ?_); (focus omega); rintro e w' ⟨rfl, rfl⟩) | ((go_at_call 33; with_reducible refine (within_no ?_ _).mono ?_); (focus omega); rintro e w' ⟨rfl, rfl⟩))
      go_quiet (fail)
      go_wp2_with fail
      go_ret
      exact ⟨ret_int HF2.out.symm, Ext.trans HX.out (by repeat' (first | (with_reducible exact Below.refl _ _) | (with_reducible assumption) | (with_reducible refine below_drewN ?_ _) | (with_reducible refine Below.drew ?_) | (with_reducible refine ext_alloc ?_ _) | (with_reducible refine Below.setCell ?_ ?_ _) | go_size))⟩
    have g1 : decide (t < v) = false := by simpa using hv
    rw [if_neg (by omega)] at hel
    have HN3 := hide (HN.out hel)
    clear hel
    go_wp2_with (first | ((go_at_call 32; with_reducible refine (HN1.out _).mono ?_); rintro e w' ⟨rfl, rfl⟩) | ((go_at_call 32; with_reducible refine (HN2.out _).mono ?_); rintro e w' ⟨rfl, rfl⟩) | ((go_at_call 33; with_reducible refine (within_yes ?_ _).mono ?_); (focus omega); rintro e w' ⟨rfl, rfl⟩) | ((go_at_call 33; with_reducible refine (within_no ?_ _).mono ?_); (focus omega); rintro e w' ⟨rfl, rfl⟩))
    go_quiet (fail)
    go_wp2_with fail
    go_roundw
    case rel => exact ⟨k + 1, by omega, by go_num, HN3, hide (Ext.trans HX.out (by repeat' (first | (with_reducible exact Below.refl _ _) | (with_reducible assumption) | (with_reducible refine below_drewN ?_ _) | (with_reducible refine Below.drew ?_) | (with_reducible refine ext_alloc ?_ _) | (with_reducible refine Below.setCell ?_ ?_ _) | go_size)))⟩
    case measure => simp [intOf]; omega
end Go.Proofs.Ytfpmjaeehhegcaa
