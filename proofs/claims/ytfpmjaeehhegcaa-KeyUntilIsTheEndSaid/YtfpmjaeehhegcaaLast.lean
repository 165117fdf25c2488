/- Walks: lasting (both), seatsOf and leaseOf of the reference. Conditions: as stated. -/
import Derived.Test.YtfpmjaeehhegcaaIdx
namespace Go.Proofs.Ytfpmjaeehhegcaa
open Go.RowKit

theorem lastP_eq (u : ByteArray) (t : Int) (x : HeldV) : lastP u t x = ((x.1.toList == u.toList) && decide (t < x.2.2)) := by
  unfold lastP; rw [bytes_eq]; simp
theorem lastN_take {hs : List HeldV} {u : ByteArray} {t : Int} {k : Nat} (hk : k < hs.length) : (lastN (hs.take (k + 1)) u t : Int) = (lastN (hs.take k) u t : Int) + if lastP u t (hs.getD k d0H) = true then 1 else 0 := by
  unfold lastN
  rw [getD_take hs k d0H hk, List.countP_append]
  generalize hs.getD k d0H = x
  by_cases h : lastP u t x = true
  · simp [h]
  · simp [h]
theorem lastN_le_len (hs : List HeldV) (u : ByteArray) (t : Int) : lastN hs u t ≤ hs.length := List.countP_le_length
set_option maxRecDepth 100000 in
set_option maxHeartbeats 2000000 in
theorem keyLasting_any {o : Nat} {A : Option Addr} {n c : Nat} {hs : List HeldV} {w : World} (hc : w.cell? ⟨o, 1, none⟩ = some (.slice A n c)) (h : At w 3 eHd A n c hs) (u : ByteArray) (t : Int) :
    Calls Try.prog 29 #[.pointer (some ⟨o, 0, none⟩), .string u, .int .i64 t] w fun e w' => e = .returned (.int .i64 (lastN hs u t : Nat)) ∧ Ext w w' := by
  have hb := h.bound
  have HLN := hide h.len
  have H := hide h
  clear h
  go_enter Try.func29, Try.ntmps29
  go_wp2
  go_loopw [7, 15] (fun rn ri wr => ∃ k : Nat, k ≤ n ∧ ri = .int .i64 k ∧ rn = .int .i64 (lastN (hs.take k) u t : Nat) ∧ Hid (Ext w wr)) (fun _ ri _ => n - (intOf ri).toNat)
  case atStart => exact ⟨0, by omega, rfl, by simp [lastN], hide (Ext.refl _)⟩
  case round =>
    obtain ⟨k, hk, rfl, rfl, HX⟩ := hrel
    by_cases hlt : k < n
    rotate_left
    · have HF : Hid (hs.take k = hs) := hide (List.take_of_length_le (by have := HLN.out; omega))
      rw [HF.out]
      go_wp2
      go_ret
      exact ⟨rfl, HX.out⟩
    have HW := hide (H.out.ext HX.out)
    obtain ⟨b, off, rfl, _⟩ := H.out.addr (by omega)
    have a0 := HW.out.cellK hlt d0H 0 _ rfl
    have a1 := HW.out.cellK hlt d0H 1 _ rfl
    have a2 := HW.out.cellK hlt d0H 2 _ rfl
    simp only [Nat.add_zero] at a0
    have hN := lastN_take (hs := hs) (u := u) (t := t) (k := k) (by have := HLN.out; omega)
    have hle := lastN_le_len (hs.take k) u t
    have hle2 : (hs.take k).length ≤ k := List.length_take_le _ _
    rw [lastP_eq] at hN
    generalize hs.getD k d0H = x at *
    obtain ⟨u', s', q⟩ := x
    simp only at a0 a1 a2 hN
    generalize hm2 : lastN (hs.take (k + 1)) u t = m2 at *
    generalize lastN (hs.take k) u t = m1 at *
    have hm : m1 ≤ k := by omega
    clear hle hle2
    have HM2 := hide hm2
    clear hm2
    cases e1 : (u'.toList == u.toList) with
    | false =>
      have HE : Hid (m2 = m1) := hide (by rw [e1] at hN; simp at hN; omega)
      clear hN
      go_wp2
      go_roundw
      case rel => exact ⟨k + 1, by omega, by go_num, by rw [HM2.out, HE.out], hide (Ext.trans HX.out (by repeat' (first | (with_reducible exact Below.refl _ _) | (with_reducible assumption) | (with_reducible refine below_drewN ?_ _) | (with_reducible refine Below.drew ?_) | (with_reducible refine ext_alloc ?_ _) | (with_reducible refine Below.setCell ?_ ?_ _) | go_size)))⟩
      case measure => simp [intOf]; omega
    | true =>
      by_cases hq : t < q
      · have HE : Hid ((m2 : Int) = (m1 : Int) + 1) := hide (by rw [e1] at hN; simpa [hq] using hN)
        clear hN
        go_wp2
        go_roundw
        case rel => exact ⟨k + 1, by omega, by go_num, by rw [HM2.out, HE.out], hide (Ext.trans HX.out (by repeat' (first | (with_reducible exact Below.refl _ _) | (with_reducible assumption) | (with_reducible refine below_drewN ?_ _) | (with_reducible refine Below.drew ?_) | (with_reducible refine ext_alloc ?_ _) | (with_reducible refine Below.setCell ?_ ?_ _) | go_size)))⟩
        case measure => simp [intOf]; omega
      · have HE : Hid (m2 = m1) := hide (by rw [e1] at hN; simp [hq] at hN; omega)
        clear hN
        go_wp2
        go_roundw
        case rel => exact ⟨k + 1, by omega, by go_num, by rw [HM2.out, HE.out], hide (Ext.trans HX.out (by repeat' (first | (with_reducible exact Below.refl _ _) | (with_reducible assumption) | (with_reducible refine below_drewN ?_ _) | (with_reducible refine Below.drew ?_) | (with_reducible refine ext_alloc ?_ _) | (with_reducible refine Below.setCell ?_ ?_ _) | go_size)))⟩
        case measure => simp [intOf]; omega
set_option maxRecDepth 100000 in
set_option maxHeartbeats 2000000 in
theorem refLasting_any {A : Option Addr} {n c : Nat} {hs : List HeldV} {w : World} (h : At w 3 eHd A n c hs) (u : ByteArray) (t : Int) :
    Calls Try.prog 34 #[.slice A n c, .string u, .int .i64 t] w fun e w' => e = .returned (.int .i64 (lastN hs u t : Nat)) ∧ Ext w w' := by
  have hb := h.bound
  have HLN := hide h.len
  have H := hide h
  clear h
  go_enter Try.func34, Try.ntmps34
  go_wp2
  go_loopw [7, 12] (fun rn ri wr => ∃ k : Nat, k ≤ n ∧ ri = .int .i64 k ∧ rn = .int .i64 (lastN (hs.take k) u t : Nat) ∧ Hid (Ext w wr)) (fun _ ri _ => n - (intOf ri).toNat)
  case atStart => exact ⟨0, by omega, rfl, by simp [lastN], hide (Ext.refl _)⟩
  case round =>
    obtain ⟨k, hk, rfl, rfl, HX⟩ := hrel
    by_cases hlt : k < n
    rotate_left
    · have HF : Hid (hs.take k = hs) := hide (List.take_of_length_le (by have := HLN.out; omega))
      rw [HF.out]
      go_wp2
      go_ret
      exact ⟨rfl, HX.out⟩
    have HW := hide (H.out.ext HX.out)
    obtain ⟨b, off, rfl, _⟩ := H.out.addr (by omega)
    have a0 := HW.out.cellK hlt d0H 0 _ rfl
    have a1 := HW.out.cellK hlt d0H 1 _ rfl
    have a2 := HW.out.cellK hlt d0H 2 _ rfl
    simp only [Nat.add_zero] at a0
    have hN := lastN_take (hs := hs) (u := u) (t := t) (k := k) (by have := HLN.out; omega)
    have hle := lastN_le_len (hs.take k) u t
    have hle2 : (hs.take k).length ≤ k := List.length_take_le _ _
    rw [lastP_eq] at hN
    generalize hs.getD k d0H = x at *
    obtain ⟨u', s', q⟩ := x
    simp only at a0 a1 a2 hN
    generalize hm2 : lastN (hs.take (k + 1)) u t = m2 at *
    generalize lastN (hs.take k) u t = m1 at *
    have hm : m1 ≤ k := by omega
    clear hle hle2
    have HM2 := hide hm2
    clear hm2
    cases e1 : (u'.toList == u.toList) with
    | false =>
      have HE : Hid (m2 = m1) := hide (by rw [e1] at hN; simp at hN; omega)
      clear hN
      go_wp2
      go_roundw
      case rel => exact ⟨k + 1, by omega, by go_num, by rw [HM2.out, HE.out], hide (Ext.trans HX.out (by repeat' (first | (with_reducible exact Below.refl _ _) | (with_reducible assumption) | (with_reducible refine below_drewN ?_ _) | (with_reducible refine Below.drew ?_) | (with_reducible refine ext_alloc ?_ _) | (with_reducible refine Below.setCell ?_ ?_ _) | go_size)))⟩
      case measure => simp [intOf]; omega
    | true =>
      by_cases hq : t < q
      · have HE : Hid ((m2 : Int) = (m1 : Int) + 1) := hide (by rw [e1] at hN; simpa [hq] using hN)
        clear hN
        go_wp2
        go_roundw
        case rel => exact ⟨k + 1, by omega, by go_num, by rw [HM2.out, HE.out], hide (Ext.trans HX.out (by repeat' (first | (with_reducible exact Below.refl _ _) | (with_reducible assumption) | (with_reducible refine below_drewN ?_ _) | (with_reducible refine Below.drew ?_) | (with_reducible refine ext_alloc ?_ _) | (with_reducible refine Below.setCell ?_ ?_ _) | go_size)))⟩
        case measure => simp [intOf]; omega
      · have HE : Hid (m2 = m1) := hide (by rw [e1] at hN; simp [hq] at hN; omega)
        clear hN
        go_wp2
        go_roundw
        case rel => exact ⟨k + 1, by omega, by go_num, by rw [HM2.out, HE.out], hide (Ext.trans HX.out (by repeat' (first | (with_reducible exact Below.refl _ _) | (with_reducible assumption) | (with_reducible refine below_drewN ?_ _) | (with_reducible refine Below.drew ?_) | (with_reducible refine ext_alloc ?_ _) | (with_reducible refine Below.setCell ?_ ?_ _) | go_size)))⟩
        case measure => simp [intOf]; omega
set_option maxRecDepth 100000 in
set_option maxHeartbeats 2000000 in
theorem refSeatsOf_any {A : Option Addr} {n c : Nat} {L : List SeatV} {w : World} (h : At w 3 eS A n c L) (u : ByteArray) :
    Calls Try.prog 26 #[.slice A n c, .string u] w fun e w' => e = .returned (.int .i64 (idxP (seatP u) L)) ∧ Ext w w' := by
  have hb := h.bound
  have HLN := hide h.len
  have H := hide h
  clear h
  go_enter Try.func26, Try.ntmps26
  go_wp2
  go_loopw [9] (fun ri wr => ∃ k : Nat, k ≤ n ∧ ri = .int .i64 k ∧ Hid (∀ j, j < k → (seatP u) (L.getD j d0S) = false) ∧ Hid (Ext w wr)) (fun ri _ => n - (intOf ri).toNat)
  case atStart => exact ⟨0, by omega, rfl, hide (fun j hj => by omega), hide (Ext.refl _)⟩
  case round =>
    obtain ⟨k, hk, rfl, HA, HX⟩ := hrel
    have HWX : Hid (Ext w wr) := hide (HX.out)
    by_cases hlt : k < n
    rotate_left
    · have HF : Hid (idxP (seatP u) L = -1) := hide (idxP_no (d := d0S) (fun j hj => HA.out j (by have := HLN.out; omega)))
      go_wp2
      go_ret
      exact ⟨ret_int HF.out.symm, HWX.out⟩
    have HW := hide (H.out.ext HWX.out)
    obtain ⟨b, off, rfl, _⟩ := H.out.addr (by omega)
    have a0 := HW.out.cellK hlt d0S 0 _ rfl
    have a1 := HW.out.cellK hlt d0S 1 _ rfl
    have a2 := HW.out.cellK hlt d0S 2 _ rfl
    simp only [Nat.add_zero] at a0
    have HY : Hid ((seatP u) (L.getD k d0S) = true → idxP (seatP u) L = k) := hide (fun hq => idxP_at (d := d0S) (by have := HLN.out; omega) hq HA.out)
    have HN : Hid ((seatP u) (L.getD k d0S) = false → ∀ j, j < k + 1 → (seatP u) (L.getD j d0S) = false) := hide (fun hz j hj => by
      rcases Nat.lt_succ_iff_lt_or_eq.1 hj with h | h
      · exact HA.out j h
      · rw [h]; exact hz)
    generalize L.getD k d0S = x at *
    obtain ⟨u', s', q⟩ := x
    simp only at a0 a1 a2
    have e2 := bytes_eq u' u
    by_cases e1 : u' = u
    · rw [decide_eq_true e1] at e2
      have hp : seatP u (u', s', q) = true := by unfold seatP; simp [e1]
      have HP := hide hp
      clear e1 hp
      have HF := hide (HY.out HP.out)
      clear HY HN
      go_wp2
      go_ret
      exact ⟨ret_int HF.out.symm, Ext.trans HWX.out (by repeat' (first | (with_reducible exact Below.refl _ _) | (with_reducible assumption) | (with_reducible refine below_drewN ?_ _) | (with_reducible refine Below.drew ?_) | (with_reducible refine ext_alloc ?_ _) | (with_reducible refine Below.setCell ?_ ?_ _) | go_size))⟩
    · rw [decide_eq_false e1] at e2
      have hp : seatP u (u', s', q) = false := by unfold seatP; simp [e1]
      have HP := hide hp
      clear e1 hp
      have HN2 := hide (HN.out HP.out)
      clear HY HN
      go_wp2
      go_roundw
      case rel => exact ⟨k + 1, by omega, by go_num, HN2, hide (Ext.trans HX.out (by repeat' (first | (with_reducible exact Below.refl _ _) | (with_reducible assumption) | (with_reducible refine below_drewN ?_ _) | (with_reducible refine Below.drew ?_) | (with_reducible refine ext_alloc ?_ _) | (with_reducible refine Below.setCell ?_ ?_ _) | go_size)))⟩
      case measure => simp [intOf]; omega
/-- The cells of an ask that lies in memory. -/
theorem ask_cells (w : World) (t : Int) (u s : ByteArray) (kd : Int) {W : World} (hW : Ext (w.alloc (.cells #[.int .i64 t, .string u, .string s, .int .i64 kd] 33)) W) :
    W.cell? ⟨w.heap.size, 0, none⟩ = some (.int .i64 t) ∧ W.cell? ⟨w.heap.size, 1, none⟩ = some (.string u) ∧ W.cell? ⟨w.heap.size, 2, none⟩ = some (.string s) ∧ W.cell? ⟨w.heap.size, 3, none⟩ = some (.int .i64 kd) := by
  have b := (Blk.new w 33 #[.int .i64 t, .string u, .string s, .int .i64 kd]).ext hW
  exact ⟨b.cell 0, b.cell 1, b.cell 2, b.cell 3⟩
set_option maxRecDepth 100000 in
set_option maxHeartbeats 2000000 in
theorem refLeaseOf_any {A : Option Addr} {n c : Nat} {L : List HeldV} {w : World} (h : At w 3 eHd A n c L) (t : Int) (u s : ByteArray) (kd : Int) :
    Calls Try.prog 51 #[.slice A n c, .agg #[.int .i64 t, .string u, .string s, .int .i64 kd]] w fun e w' => e = .returned (.int .i64 (idxP (heldP u s t) L)) ∧ Ext w w' := by
  have hb := h.bound
  have HLN := hide h.len
  have H := hide h
  clear h
  have HCL := hide (fun (W : World) hW => ask_cells w t u s kd (W := W) hW)
  go_enter Try.func51, Try.ntmps51
  go_wp2
  go_loopw [9] (fun ri wr => ∃ k : Nat, k ≤ n ∧ ri = .int .i64 k ∧ Hid (∀ j, j < k → (heldP u s t) (L.getD j d0H) = false) ∧ Hid (Ext (w.alloc (.cells #[.int .i64 t, .string u, .string s, .int .i64 kd] 33)) wr)) (fun ri _ => n - (intOf ri).toNat)
  case atStart => exact ⟨0, by omega, rfl, hide (fun j hj => by omega), hide (Ext.refl _)⟩
  case round =>
    obtain ⟨k, hk, rfl, HA, HX⟩ := hrel
    have HWX : Hid (Ext w wr) := hide (Ext.trans (Ext.alloc _ _) HX.out)
    by_cases hlt : k < n
    rotate_left
    · have HF : Hid (idxP (heldP u s t) L = -1) := hide (idxP_no (d := d0H) (fun j hj => HA.out j (by have := HLN.out; omega)))
      go_wp2
      go_ret
      exact ⟨ret_int HF.out.symm, HWX.out⟩
    have HW := hide (H.out.ext HWX.out)
    obtain ⟨b, off, rfl, _⟩ := H.out.addr (by omega)
    have a0 := HW.out.cellK hlt d0H 0 _ rfl
    have a1 := HW.out.cellK hlt d0H 1 _ rfl
    have a2 := HW.out.cellK hlt d0H 2 _ rfl
    simp only [Nat.add_zero] at a0
    have HY : Hid ((heldP u s t) (L.getD k d0H) = true → idxP (heldP u s t) L = k) := hide (fun hq => idxP_at (d := d0H) (by have := HLN.out; omega) hq HA.out)
    have HN : Hid ((heldP u s t) (L.getD k d0H) = false → ∀ j, j < k + 1 → (heldP u s t) (L.getD j d0H) = false) := hide (fun hz j hj => by
      rcases Nat.lt_succ_iff_lt_or_eq.1 hj with h | h
      · exact HA.out j h
      · rw [h]; exact hz)
    generalize L.getD k d0H = x at *
    obtain ⟨u', s', q⟩ := x
    simp only at a0 a1 a2
    obtain ⟨q0, q1, q2, _⟩ := HCL.out wr HX.out
    have EB := Ext.alloc wr (.cells #[.string u', .string s', .int .i64 q] 95)
    have q0' := EB.cell q0
    have q1' := EB.cell q1
    have q2' := EB.cell q2
    clear EB q0 q1 q2
    have e2 := bytes_eq u' u
    have e3 := bytes_eq s' s
    by_cases e1 : u' = u
    · rw [decide_eq_true e1] at e2
      by_cases e4 : s' = s
      · rw [decide_eq_true e4] at e3
        by_cases e5 : t < q
        · have HP : Hid (heldP u s t (u', s', q) = true) := hide (by unfold heldP; simp [e1, e4, e5])
          clear e1 e4
          have HF := hide (HY.out HP.out)
          clear HY HN
          go_wp2
          go_ret
          exact ⟨ret_int HF.out.symm, Ext.trans HWX.out (by repeat' (first | (with_reducible exact Below.refl _ _) | (with_reducible assumption) | (with_reducible refine below_drewN ?_ _) | (with_reducible refine Below.drew ?_) | (with_reducible refine ext_alloc ?_ _) | (with_reducible refine Below.setCell ?_ ?_ _) | go_size))⟩
        · have HP : Hid (heldP u s t (u', s', q) = false) := hide (by unfold heldP; simp [e5])
          clear e1 e4
          have HN2 := hide (HN.out HP.out)
          clear HY HN
          go_wp2
          go_roundw
          case rel => exact ⟨k + 1, by omega, by go_num, HN2, hide (Ext.trans HX.out (by repeat' (first | (with_reducible exact Below.refl _ _) | (with_reducible assumption) | (with_reducible refine below_drewN ?_ _) | (with_reducible refine Below.drew ?_) | (with_reducible refine ext_alloc ?_ _) | (with_reducible refine Below.setCell ?_ ?_ _) | go_size)))⟩
          case measure => simp [intOf]; omega
      · rw [decide_eq_false e4] at e3
        have HP : Hid (heldP u s t (u', s', q) = false) := hide (by unfold heldP; simp [e4])
        clear e1 e4
        have HN2 := hide (HN.out HP.out)
        clear HY HN
        go_wp2
        go_roundw
        case rel => exact ⟨k + 1, by omega, by go_num, HN2, hide (Ext.trans HX.out (by repeat' (first | (with_reducible exact Below.refl _ _) | (with_reducible assumption) | (with_reducible refine below_drewN ?_ _) | (with_reducible refine Below.drew ?_) | (with_reducible refine ext_alloc ?_ _) | (with_reducible refine Below.setCell ?_ ?_ _) | go_size)))⟩
        case measure => simp [intOf]; omega
    · rw [decide_eq_false e1] at e2
      have HP : Hid (heldP u s t (u', s', q) = false) := hide (by unfold heldP; simp [e1])
      clear e1 e3
      have HN2 := hide (HN.out HP.out)
      clear HY HN
      go_wp2
      go_roundw
      case rel => exact ⟨k + 1, by omega, by go_num, HN2, hide (Ext.trans HX.out (by repeat' (first | (with_reducible exact Below.refl _ _) | (with_reducible assumption) | (with_reducible refine below_drewN ?_ _) | (with_reducible refine Below.drew ?_) | (with_reducible refine ext_alloc ?_ _) | (with_reducible refine Below.setCell ?_ ?_ _) | go_size)))⟩
      case measure => simp [intOf]; omega
end Go.Proofs.Ytfpmjaeehhegcaa
