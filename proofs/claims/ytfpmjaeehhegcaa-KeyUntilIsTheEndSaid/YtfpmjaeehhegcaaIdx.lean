/- Walks: who has seats, which lease lasts, how many last (both), with slices.IndexFunc and its predicates. Conditions: as stated. -/
import Derived.Test.YtfpmjaeehhegcaaAsk
import Derived.Shelf.Abstract
namespace Go.Proofs.Ytfpmjaeehhegcaa
open Go.RowKit

theorem bytes_eq (a b : ByteArray) : (a.toList == b.toList) = decide (a = b) := by
  by_cases h : a = b
  · subst h; simp
  · have : ¬ a.toList = b.toList := fun e => h (by
      rw [ByteArray.toList_eq, ByteArray.toList_eq] at e
      have := Array.toList_inj.1 e
      cases a; cases b; simp_all)
    rw [decide_eq_false h]
    exact beq_eq_false_iff_ne.2 this
/-- The first place at which a predicate holds, or -1. -/
def idxP {α : Type} (p : α → Bool) (l : List α) : Int := match l.findIdx? p with | some i => (i : Int) | none => -1
theorem idxP_at {α : Type} {p : α → Bool} {l : List α} {k : Nat} {d : α} (hk : k < l.length) (h : p (l.getD k d) = true) (ha : ∀ j, j < k → p (l.getD j d) = false) : idxP p l = k := by
  unfold idxP
  have : l.findIdx? p = some k := by
    rw [List.findIdx?_eq_some_iff_getElem]
    refine ⟨hk, by simpa [List.getD, hk] using h, fun j hj => ?_⟩
    have := ha j hj
    have hjl : j < l.length := by omega
    simpa [List.getD, hjl] using this
  rw [this]
theorem idxP_no {α : Type} {p : α → Bool} {l : List α} {d : α} (ha : ∀ j, j < l.length → p (l.getD j d) = false) : idxP p l = -1 := by
  unfold idxP
  have : l.findIdx? p = none := by
    rw [List.findIdx?_eq_none_iff]
    intro x hx
    obtain ⟨j, hj, rfl⟩ := mem_getD d hx
    exact ha j hj
  rw [this]
/-- Leases in memory. -/
abbrev HeldV := ByteArray × ByteArray × Int
abbrev eHd (x : HeldV) : List Value := [.string x.1, .string x.2.1, .int .i64 x.2.2]
abbrev d0H : HeldV := (ByteArray.empty, ByteArray.empty, 0)
theorem clo1_any {u : ByteArray} {B : Nat} (x : SeatV) (W : World) (hB : W.cell? ⟨B, 1, none⟩ = some (.string u)) :
    Calls Try.prog 43 #[.agg #[.string x.1, .int .i64 x.2.1, .int .i64 x.2.2], .pointer (some ⟨B, 0, none⟩)] W fun e w' => e = .returned (.bool (seatP u x)) ∧ Ext W w' := by
  have hp : (x.1.toList == u.toList) = seatP u x := bytes_eq _ _
  have hb := (Ext.alloc W (.cells #[.string x.1, .int .i64 x.2.1, .int .i64 x.2.2] 61)).cell hB
  have HP := hide hp
  clear hp
  go_enter Try.func43, Try.ntmps43
  go_wp2
  go_ret
  exact ⟨ret_bool HP.out, (by repeat' (first | (with_reducible exact Below.refl _ _) | (with_reducible assumption) | (with_reducible refine below_drewN ?_ _) | (with_reducible refine Below.drew ?_) | (with_reducible refine ext_alloc ?_ _) | (with_reducible refine Below.setCell ?_ ?_ _) | go_size))⟩
theorem clo2_any {t : Int} {u s : ByteArray} {B : Nat} (x : HeldV) (W : World) (h0 : W.cell? ⟨B, 0, none⟩ = some (.int .i64 t)) (h1 : W.cell? ⟨B, 1, none⟩ = some (.string u)) (h2 : W.cell? ⟨B, 2, none⟩ = some (.string s)) :
    Calls Try.prog 45 #[.agg #[.string x.1, .string x.2.1, .int .i64 x.2.2], .pointer (some ⟨B, 0, none⟩)] W fun e w' => e = .returned (.bool (heldP u s t x)) ∧ Ext W w' := by
  have e1 := bytes_eq x.1 u
  have e2 := bytes_eq x.2.1 s
  have EA := Ext.alloc W (.cells #[.string x.1, .string x.2.1, .int .i64 x.2.2] 83)
  have g0 := EA.cell h0
  have g1 := EA.cell h1
  have g2 := EA.cell h2
  by_cases c1 : x.1 = u
  · by_cases c2 : x.2.1 = s
    · have hp : Hid (heldP u s t x = decide (t < x.2.2)) := hide (by unfold heldP; simp [c1, c2])
      rw [decide_eq_true c1] at e1
      rw [decide_eq_true c2] at e2
      clear c1 c2 EA
      go_enter Try.func45, Try.ntmps45
      go_wp2
      go_ret
      exact ⟨ret_bool hp.out.symm, (by repeat' (first | (with_reducible exact Below.refl _ _) | (with_reducible assumption) | (with_reducible refine below_drewN ?_ _) | (with_reducible refine Below.drew ?_) | (with_reducible refine ext_alloc ?_ _) | (with_reducible refine Below.setCell ?_ ?_ _) | go_size))⟩
    · have hp : Hid (heldP u s t x = false) := hide (by unfold heldP; simp [c2])
      rw [decide_eq_true c1] at e1
      rw [decide_eq_false c2] at e2
      clear c1 c2 EA
      go_enter Try.func45, Try.ntmps45
      go_wp2
      go_ret
      exact ⟨ret_bool hp.out.symm, (by repeat' (first | (with_reducible exact Below.refl _ _) | (with_reducible assumption) | (with_reducible refine below_drewN ?_ _) | (with_reducible refine Below.drew ?_) | (with_reducible refine ext_alloc ?_ _) | (with_reducible refine Below.setCell ?_ ?_ _) | go_size))⟩
  · have hp : Hid (heldP u s t x = false) := hide (by unfold heldP; simp [c1])
    rw [decide_eq_false c1] at e1
    clear c1 EA e2
    go_enter Try.func45, Try.ntmps45
    go_wp2
    go_ret
    exact ⟨ret_bool hp.out.symm, (by repeat' (first | (with_reducible exact Below.refl _ _) | (with_reducible assumption) | (with_reducible refine below_drewN ?_ _) | (with_reducible refine Below.drew ?_) | (with_reducible refine ext_alloc ?_ _) | (with_reducible refine Below.setCell ?_ ?_ _) | go_size))⟩
set_option maxRecDepth 100000 in
set_option maxHeartbeats 1000000 in
theorem idxS_any {g : Nat} {ptr : Value} {p : SeatV → Bool} (eg : ∀ args w, (callFunc g args).run Try.prog w = .ok (.enter g args) w) {A : Option Addr} {n c : Nat} {L : List SeatV} {w : World}
    (hp : ∀ (x : SeatV) (W : World), Ext w W → Calls Try.prog g #[.agg #[.string x.1, .int .i64 x.2.1, .int .i64 x.2.2], ptr] W fun e w' => e = .returned (.bool (p x)) ∧ Ext W w') (h : At w 3 eS A n c L) :
    Calls Try.prog 42 #[.slice A n c, .func (.func g) #[] #[ptr]] w fun e w' => e = .returned (.int .i64 (idxP p L)) ∧ Ext w w' := by
  have hb := h.bound
  have HLN := hide h.len
  have H := hide h
  have HPP := hide hp
  clear h hp
  go_enter Try.func42, Try.ntmps42
  go_wp2
  go_loopw [5, 8] (fun _ ri wr => ∃ k : Nat, k ≤ n ∧ ri = .int .i64 k ∧ Hid (∀ j, j < k → p (L.getD j d0S) = false) ∧ Hid (Ext w wr)) (fun _ i _ => n - (intOf i).toNat)
  case atStart => exact ⟨0, by omega, rfl, hide (fun j hj => by omega), hide (Ext.refl _)⟩
  case round =>
    obtain ⟨k, hk, rfl, HA, HX⟩ := hrel
    by_cases hlt : k < n
    rotate_left
    · have HF : Hid (idxP p L = -1) := hide (idxP_no (d := d0S) (fun j hj => HA.out j (by have := HLN.out; omega)))
      go_wp2
      go_ret
      exact ⟨ret_int HF.out.symm, HX.out⟩
    have HW := hide (H.out.ext HX.out)
    obtain ⟨b, off, rfl, _⟩ := H.out.addr (by omega)
    have a0 := HW.out.cellK hlt d0S 0 _ rfl
    have a1 := HW.out.cellK hlt d0S 1 _ rfl
    have a2 := HW.out.cellK hlt d0S 2 _ rfl
    simp only [Nat.add_zero] at a0
    have HC := hide (HPP.out (L.getD k d0S) wr HX.out)
    have HY : Hid (p (L.getD k d0S) = true → idxP p L = k) := hide (fun hq => idxP_at (d := d0S) (by have := HLN.out; omega) hq HA.out)
    have HN : Hid (p (L.getD k d0S) = false → ∀ j, j < k + 1 → p (L.getD j d0S) = false) := hide (fun hz j hj => by
      rcases Nat.lt_succ_iff_lt_or_eq.1 hj with h | h
      · exact HA.out j h
      · rw [h]; exact hz)
    generalize L.getD k d0S = x at *
    obtain ⟨u, m, q⟩ := x
    simp only at a0 a1 a2 HC
    cases hpx : p (u, m, q) with
    | true =>
      have HF := hide (HY.out hpx)
      rw [hpx] at HC
      clear hpx
      go_wp2_with fail
      refine HC.out.mono ?_
      rintro e w' ⟨rfl, e1⟩
      have E1 := hide (Ext.trans HX.out e1)
      clear e1
      go_wp2
      go_ret
      exact ⟨ret_int HF.out.symm, E1.out⟩
    | false =>
      have HN2 := hide (HN.out hpx)
      rw [hpx] at HC
      clear hpx
      go_wp2_with fail
      refine HC.out.mono ?_
      rintro e w' ⟨rfl, e1⟩
      have E1 := hide (Ext.trans HX.out e1)
      clear e1
      go_wp2
      go_roundw
      case rel => exact ⟨k + 1, by omega, by go_num, HN2, E1⟩
      case measure => simp [intOf]; omega
set_option maxRecDepth 100000 in
set_option maxHeartbeats 1000000 in
theorem idxH_any {g : Nat} {ptr : Value} {p : HeldV → Bool} (eg : ∀ args w, (callFunc g args).run Try.prog w = .ok (.enter g args) w) {A : Option Addr} {n c : Nat} {L : List HeldV} {w : World}
    (hp : ∀ (x : HeldV) (W : World), Ext w W → Calls Try.prog g #[.agg #[.string x.1, .string x.2.1, .int .i64 x.2.2], ptr] W fun e w' => e = .returned (.bool (p x)) ∧ Ext W w') (h : At w 3 eHd A n c L) :
    Calls Try.prog 44 #[.slice A n c, .func (.func g) #[] #[ptr]] w fun e w' => e = .returned (.int .i64 (idxP p L)) ∧ Ext w w' := by
  have hb := h.bound
  have HLN := hide h.len
  have H := hide h
  have HPP := hide hp
  clear h hp
  go_enter Try.func44, Try.ntmps44
  go_wp2
  go_loopw [5, 8] (fun _ ri wr => ∃ k : Nat, k ≤ n ∧ ri = .int .i64 k ∧ Hid (∀ j, j < k → p (L.getD j d0H) = false) ∧ Hid (Ext w wr)) (fun _ i _ => n - (intOf i).toNat)
  case atStart => exact ⟨0, by omega, rfl, hide (fun j hj => by omega), hide (Ext.refl _)⟩
  case round =>
    obtain ⟨k, hk, rfl, HA, HX⟩ := hrel
    by_cases hlt : k < n
    rotate_left
    · have HF : Hid (idxP p L = -1) := hide (idxP_no (d := d0H) (fun j hj => HA.out j (by have := HLN.out; omega)))
      go_wp2
      go_ret
      exact ⟨ret_int HF.out.symm, HX.out⟩
    have HW := hide (H.out.ext HX.out)
    obtain ⟨b, off, rfl, _⟩ := H.out.addr (by omega)
    have a0 := HW.out.cellK hlt d0H 0 _ rfl
    have a1 := HW.out.cellK hlt d0H 1 _ rfl
    have a2 := HW.out.cellK hlt d0H 2 _ rfl
    simp only [Nat.add_zero] at a0
    have HC := hide (HPP.out (L.getD k d0H) wr HX.out)
    have HY : Hid (p (L.getD k d0H) = true → idxP p L = k) := hide (fun hq => idxP_at (d := d0H) (by have := HLN.out; omega) hq HA.out)
    have HN : Hid (p (L.getD k d0H) = false → ∀ j, j < k + 1 → p (L.getD j d0H) = false) := hide (fun hz j hj => by
      rcases Nat.lt_succ_iff_lt_or_eq.1 hj with h | h
      · exact HA.out j h
      · rw [h]; exact hz)
    generalize L.getD k d0H = x at *
    obtain ⟨u, m, q⟩ := x
    simp only at a0 a1 a2 HC
    cases hpx : p (u, m, q) with
    | true =>
      have HF := hide (HY.out hpx)
      rw [hpx] at HC
      clear hpx
      go_wp2_with fail
      refine HC.out.mono ?_
      rintro e w' ⟨rfl, e1⟩
      have E1 := hide (Ext.trans HX.out e1)
      clear e1
      go_wp2
      go_ret
      exact ⟨ret_int HF.out.symm, E1.out⟩
    | false =>
      have HN2 := hide (HN.out hpx)
      rw [hpx] at HC
      clear hpx
      go_wp2_with fail
      refine HC.out.mono ?_
      rintro e w' ⟨rfl, e1⟩
      have E1 := hide (Ext.trans HX.out e1)
      clear e1
      go_wp2
      go_roundw
      case rel => exact ⟨k + 1, by omega, by go_num, HN2, E1⟩
      case measure => simp [intOf]; omega
end Go.Proofs.Ytfpmjaeehhegcaa
