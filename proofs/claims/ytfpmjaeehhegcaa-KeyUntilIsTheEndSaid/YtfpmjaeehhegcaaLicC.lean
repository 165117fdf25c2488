/- Walks: CheckLicences (both). Conditions: strings are no longer than strings can be. -/
import Derived.Test.YtfpmjaeehhegcaaLicB
import Derived.Deep.RegionWith
import Derived.Test.YtfpmjaeehhegcaaHeldZ
namespace Go.Proofs.Ytfpmjaeehhegcaa
open Go.RowKit

abbrev LicV := LicT ByteArray
/-- A licence in memory: what it says, and where its outputs lie. -/
abbrev LicM := LicV × (Option Addr × Nat × Nat)
abbrev eL (x : LicM) : List Value := [.string x.1.user, .string x.1.id, .int .i64 x.1.pf, .int .i64 x.1.pt, .int .i64 x.1.frm, .int .i64 x.1.upto, .int .i64 x.1.long, .slice x.2.1 x.2.2.1 x.2.2.2]
abbrev d0L : LicM := (⟨ByteArray.empty, ByteArray.empty, 0, 0, 0, 0, 0, []⟩, none, 0, 0)
def okL (x : LicM) : Prop := x.1.user.size ≤ maxLen ∧ x.1.id.size ≤ maxLen ∧ ∀ o ∈ x.1.outs, okO o
/-- The outputs of all licences lie where they say. -/
def Outs (w : World) (L : List LicM) : Prop := ∀ x ∈ L, At w 2 eO x.2.1 x.2.2.1 x.2.2.2 x.1.outs
theorem Outs.ext {w w' : World} {L : List LicM} (h : Outs w L) (he : Ext w w') : Outs w' L := fun x hx => (h x hx).ext he
def licEl (L : List LicM) (i : Nat) : Int :=
  if nameB (L.getD i d0L).1.user = false ∨ nameB (L.getD i d0L).1.id = false then 5
  else if 0 < i ∧ pairLe (L.getD i d0L).1.user (L.getD i d0L).1.id (L.getD (i - 1) d0L).1.user (L.getD (i - 1) d0L).1.id = true then 8
  else licF (L.getD i d0L).1.pf (L.getD i d0L).1.pt (L.getD i d0L).1.frm (L.getD i d0L).1.upto (L.getD i d0L).1.long (L.getD i d0L).1.outs
def licsF (L : List LicM) : Int := if 200 < L.length then 2 else firstF (licEl L) L.length

set_option linter.unusedSimpArgs false in
set_option maxRecDepth 100000 in
set_option maxHeartbeats 8000000 in
theorem refLics_any {A : Option Addr} {n c : Nat} {L : List LicM} {w : World} (h : At w 8 eL A n c L) (ho : Outs w L) (hg : ∀ x ∈ L, okL x) :
    Calls Try.prog 20 #[.slice A n c] w fun e w' => e = .returned (.int .i64 (licsF L)) ∧ Ext w w' := by
  have hb := h.bound
  have HLN := hide h.len
  have H := hide h
  have HOO := hide ho
  have HG := hide hg
  clear h hg ho
  by_cases h2 : 200 < n
  · have HF : Hid (licsF L = 2) := hide (by unfold licsF; rw [if_pos (by have := HLN.out; omega)])
    go_enter Try.func20, Try.ntmps20
    go_wp2_with fail
    go_ret
    exact ⟨ret_int HF.out.symm, (by repeat' (first | (with_reducible exact Below.refl _ _) | (with_reducible assumption) | (with_reducible refine below_drewN ?_ _) | (with_reducible refine Below.drew ?_) | (with_reducible refine ext_alloc ?_ _) | (with_reducible refine Below.setCell ?_ ?_ _) | go_size))⟩
  have HF : Hid (licsF L = firstF (licEl L) n) := hide (by unfold licsF; rw [if_neg (by have := HLN.out; omega), HLN.out])
  go_enter Try.func20, Try.ntmps20
  go_wp2_with fail
  go_loopw [11] (fun ri wr => ∃ k : Nat, k ≤ n ∧ ri = .int .i64 k ∧ Hid (∀ j, j < k → licEl L j = 0) ∧ Hid (Ext w wr)) (fun ri _ => n - (intOf ri).toNat)
  case atStart => exact ⟨0, by omega, rfl, hide (fun j hj => by omega), hide (Ext.refl _)⟩
  case round =>
    obtain ⟨k, hk, rfl, HZ, HX⟩ := hrel
    by_cases hlt : k < n
    rotate_left
    · have HF2 : Hid (licsF L = 0) := hide (by rw [HF.out, firstF_zero (fun j hj => HZ.out j (by omega))])
      go_wp2_with fail
      go_ret
      exact ⟨ret_int HF2.out.symm, HX.out⟩
    have HW := hide (H.out.ext HX.out)
    obtain ⟨b, off, rfl, _⟩ := H.out.addr (by omega)
    have a0 := HW.out.cellK hlt d0L 0 _ rfl
    have a1 := HW.out.cellK hlt d0L 1 _ rfl
    have a2 := HW.out.cellK hlt d0L 2 _ rfl
    have a3 := HW.out.cellK hlt d0L 3 _ rfl
    have a4 := HW.out.cellK hlt d0L 4 _ rfl
    have a5 := HW.out.cellK hlt d0L 5 _ rfl
    have a6 := HW.out.cellK hlt d0L 6 _ rfl
    have a7 := HW.out.cellK hlt d0L 7 _ rfl
    simp only [Nat.add_zero] at a0
    have hok := HG.out _ (getD_mem L k d0L (by have := HLN.out; omega))
    have hat := HOO.out _ (getD_mem L k d0L (by have := HLN.out; omega))
    have HNM := hide (fun (W : World) => refName_any (L.getD k d0L).1.user hok.1 W)
    have HNI := hide (fun (W : World) => refName_any (L.getD k d0L).1.id hok.2.1 W)
    have HLI := hide (fun (W : World) (hW : Ext w W) => refLic_any (L.getD k d0L).1.user (L.getD k d0L).1.id (L.getD k d0L).1.pf (L.getD k d0L).1.pt (L.getD k d0L).1.frm (L.getD k d0L).1.upto (L.getD k d0L).1.long (hat.ext hW) hok.2.2)
    have HP := hide (fun (h0 : 0 < k) => (⟨HW.out.cellK (k := k - 1) (by omega) d0L 0 _ rfl, HW.out.cellK (k := k - 1) (by omega) d0L 1 _ rfl⟩ : _ ∧ _))
    have hel : licEl L k = if nameB (L.getD k d0L).1.user = false ∨ nameB (L.getD k d0L).1.id = false then 5 else if 0 < k ∧ pairLe (L.getD k d0L).1.user (L.getD k d0L).1.id (L.getD (k - 1) d0L).1.user (L.getD (k - 1) d0L).1.id = true then 8 else licF (L.getD k d0L).1.pf (L.getD k d0L).1.pt (L.getD k d0L).1.frm (L.getD k d0L).1.upto (L.getD k d0L).1.long (L.getD k d0L).1.outs := rfl
    have HY : Hid (licEl L k ≠ 0 → licsF L = licEl L k) := hide (fun hz => by rw [HF.out, firstF_at HZ.out hz hlt])
    have HN : Hid (licEl L k = 0 → ∀ j, j < k + 1 → licEl L j = 0) := hide (fun hz j hj => by
      rcases Nat.lt_succ_iff_lt_or_eq.1 hj with h | h
      · exact HZ.out j h
      · rw [h]; exact hz)
    clear hok hat
    generalize licEl L k = z at *
    generalize L.getD k d0L = x at *
    obtain ⟨⟨u, i, pf, pt, f, t, g, O⟩, A', n', c'⟩ := x
    simp only at a0 a1 a2 a3 a4 a5 a6 a7 hel HNM HNI HLI
    cases hn : nameB u with
    | false =>
      rw [if_pos (.inl hn)] at hel
      have HF2 : Hid (licsF L = 5) := hide (by rw [HY.out (by omega), hel])
      rw [hn] at HNM
      clear hel hn
      go_wp2_with ((first | ((go_at_call_of 32 (Value.string u); with_reducible refine (HNM.out _).mono ?_); rintro e w' ⟨rfl, rfl⟩) | ((go_at_call_of 32 (Value.string i); with_reducible refine (HNI.out _).mono ?_); rintro e w' ⟨rfl, rfl⟩)))
      go_ret
      exact ⟨ret_int HF2.out.symm, Ext.trans HX.out (by repeat' (first | (with_reducible exact Below.refl _ _) | (with_reducible assumption) | (with_reducible refine below_drewN ?_ _) | (with_reducible refine Below.drew ?_) | (with_reducible refine ext_alloc ?_ _) | (with_reducible refine Below.setCell ?_ ?_ _) | go_size))⟩
    | true =>
    cases hn2 : nameB i with
    | false =>
      rw [if_pos (.inr hn2)] at hel
      have HF2 : Hid (licsF L = 5) := hide (by rw [HY.out (by omega), hel])
      rw [hn] at HNM
      rw [hn2] at HNI
      clear hel hn hn2
      go_wp2_with ((first | ((go_at_call_of 32 (Value.string u); with_reducible refine (HNM.out _).mono ?_); rintro e w' ⟨rfl, rfl⟩) | ((go_at_call_of 32 (Value.string i); with_reducible refine (HNI.out _).mono ?_); rintro e w' ⟨rfl, rfl⟩)))
      go_ret
      exact ⟨ret_int HF2.out.symm, Ext.trans HX.out (by repeat' (first | (with_reducible exact Below.refl _ _) | (with_reducible assumption) | (with_reducible refine below_drewN ?_ _) | (with_reducible refine Below.drew ?_) | (with_reducible refine ext_alloc ?_ _) | (with_reducible refine Below.setCell ?_ ?_ _) | go_size))⟩
    | true =>
    rw [if_neg (by simp [hn, hn2])] at hel
    rw [hn] at HNM
    rw [hn2] at HNI
    clear hn hn2
    rcases Nat.eq_zero_or_pos k with hk0 | hk0
    · have g0 : decide ((0 : Int) < (k : Int)) = false := by simp; omega
      have g00 : decide (0 < k) = false := by simp; omega
      rw [if_neg (by omega)] at hel
      clear hk0 HP
      have HEL := hide hel
      clear hel
      go_wp2_with ((first | ((go_at_call_of 32 (Value.string u); with_reducible refine (HNM.out _).mono ?_); rintro e w' ⟨rfl, rfl⟩) | ((go_at_call_of 32 (Value.string i); with_reducible refine (HNI.out _).mono ?_); rintro e w' ⟨rfl, rfl⟩)))
      go_quiet (fail)
      go_wp2_with fail
      have hel := HEL.out
      refine (HLI.out _ (Ext.trans HX.out (by repeat' (first | (with_reducible exact Below.refl _ _) | (with_reducible assumption) | (with_reducible refine below_drewN ?_ _) | (with_reducible refine Below.drew ?_) | (with_reducible refine ext_alloc ?_ _) | (with_reducible refine Below.setCell ?_ ?_ _) | go_size)))).mono ?_
      rintro e w5 ⟨rfl, e5⟩
      have E5 := hide (Ext.trans (Ext.trans HX.out (by repeat' (first | (with_reducible exact Below.refl _ _) | (with_reducible assumption) | (with_reducible refine below_drewN ?_ _) | (with_reducible refine Below.drew ?_) | (with_reducible refine ext_alloc ?_ _) | (with_reducible refine Below.setCell ?_ ?_ _) | go_size))) e5)
      clear e5
      generalize licF pf pt f t g O = r at *
      by_cases hr : r = 0
      · have HN2 := hide (HN.out (hel.trans hr))
        subst hr
        clear hel
        go_wp2_with fail
        go_roundw
        case rel => exact ⟨k + 1, by omega, by go_num, HN2, hide E5.out⟩
        case measure => simp [intOf]; omega
      have HF2 : Hid (licsF L = r) := hide (by rw [HY.out (by omega), hel])
      have hr' : (r != 0) = true := by rw [bne_iff_ne]; exact hr
      clear hel hr
      go_wp2_with fail
      go_ret
      exact ⟨ret_int HF2.out.symm, E5.out⟩
    have g0 : decide ((0 : Int) < (k : Int)) = true := by simp; omega
    have g00 : decide (0 < k) = true := by simp; omega
    have j2 : IntKind.i64.wrap ((k : Int) - 1) = (k : Int) - 1 := by rw [IntKind.wrap_i64]; omega
    have j3 : ((k : Int) - 1).toNat = k - 1 := by omega
    have j4 : 0 ≤ (k : Int) - 1 := by omega
    have j5 : (k : Int) - 1 < (n : Int) := by omega
    have j7 : 1 ≤ (k : Int) := by omega
    have j8 : (k : Int) ≤ (n : Int) := by omega
    obtain ⟨p0, p1⟩ := HP.out hk0
    simp only [Nat.add_zero] at p0 p1
    generalize (L.getD (k - 1) d0L).1.user = v at *
    generalize (L.getD (k - 1) d0L).1.id = j at *
    have q0 := (Ext.alloc wr (.cells #[.string u, .string i, .int .i64 pf, .int .i64 pt, .int .i64 f, .int .i64 t, .int .i64 g, .slice A' n' c'] 74)).cell p0
    have q1 := (Ext.alloc wr (.cells #[.string u, .string i, .int .i64 pf, .int .i64 pt, .int .i64 f, .int .i64 t, .int .i64 g, .slice A' n' c'] 74)).cell p1
    clear HP p0 p1
    unfold pairLe sLe at hel
    cases s1 : Op.bytesLess u.toList v.toList with
    | true =>
      rw [if_pos ⟨hk0, by simp [*]⟩] at hel
      have HF2 : Hid (licsF L = 8) := hide (by rw [HY.out (by omega), hel])
      clear hel
      go_wp2_with ((first | ((go_at_call_of 32 (Value.string u); with_reducible refine (HNM.out _).mono ?_); rintro e w' ⟨rfl, rfl⟩) | ((go_at_call_of 32 (Value.string i); with_reducible refine (HNI.out _).mono ?_); rintro e w' ⟨rfl, rfl⟩)))
      go_quiet (fail)
      go_wp2_with fail
      go_ret
      exact ⟨ret_int HF2.out.symm, Ext.trans HX.out (by repeat' (first | (with_reducible exact Below.refl _ _) | (with_reducible assumption) | (with_reducible refine below_drewN ?_ _) | (with_reducible refine Below.drew ?_) | (with_reducible refine ext_alloc ?_ _) | (with_reducible refine Below.setCell ?_ ?_ _) | go_size))⟩
    | false =>
    cases s2 : (u.toList == v.toList) with
    | true =>
      cases s3 : (Op.bytesLess i.toList j.toList || i.toList == j.toList) with
      | true =>
        rw [if_pos ⟨hk0, by simp [*]⟩] at hel
        have HF2 : Hid (licsF L = 8) := hide (by rw [HY.out (by omega), hel])
        clear hel
        go_wp2_with ((first | ((go_at_call_of 32 (Value.string u); with_reducible refine (HNM.out _).mono ?_); rintro e w' ⟨rfl, rfl⟩) | ((go_at_call_of 32 (Value.string i); with_reducible refine (HNI.out _).mono ?_); rintro e w' ⟨rfl, rfl⟩)))
        go_quiet (fail)
        go_wp2_with fail
        go_ret
        exact ⟨ret_int HF2.out.symm, Ext.trans HX.out (by repeat' (first | (with_reducible exact Below.refl _ _) | (with_reducible assumption) | (with_reducible refine below_drewN ?_ _) | (with_reducible refine Below.drew ?_) | (with_reducible refine ext_alloc ?_ _) | (with_reducible refine Below.setCell ?_ ?_ _) | go_size))⟩
      | false =>
      rw [if_neg (by simp [s1, s2, s3])] at hel
      have HEL := hide hel
      clear hel
      go_wp2_with ((first | ((go_at_call_of 32 (Value.string u); with_reducible refine (HNM.out _).mono ?_); rintro e w' ⟨rfl, rfl⟩) | ((go_at_call_of 32 (Value.string i); with_reducible refine (HNI.out _).mono ?_); rintro e w' ⟨rfl, rfl⟩)))
      go_quiet (fail)
      go_wp2_with fail
      have hel := HEL.out
      refine (HLI.out _ (Ext.trans HX.out (by repeat' (first | (with_reducible exact Below.refl _ _) | (with_reducible assumption) | (with_reducible refine below_drewN ?_ _) | (with_reducible refine Below.drew ?_) | (with_reducible refine ext_alloc ?_ _) | (with_reducible refine Below.setCell ?_ ?_ _) | go_size)))).mono ?_
      rintro e w5 ⟨rfl, e5⟩
      have E5 := hide (Ext.trans (Ext.trans HX.out (by repeat' (first | (with_reducible exact Below.refl _ _) | (with_reducible assumption) | (with_reducible refine below_drewN ?_ _) | (with_reducible refine Below.drew ?_) | (with_reducible refine ext_alloc ?_ _) | (with_reducible refine Below.setCell ?_ ?_ _) | go_size))) e5)
      clear e5
      generalize licF pf pt f t g O = r at *
      by_cases hr : r = 0
      · have HN2 := hide (HN.out (hel.trans hr))
        subst hr
        clear hel
        go_wp2_with fail
        go_roundw
        case rel => exact ⟨k + 1, by omega, by go_num, HN2, hide E5.out⟩
        case measure => simp [intOf]; omega
      have HF2 : Hid (licsF L = r) := hide (by rw [HY.out (by omega), hel])
      have hr' : (r != 0) = true := by rw [bne_iff_ne]; exact hr
      clear hel hr
      go_wp2_with fail
      go_ret
      exact ⟨ret_int HF2.out.symm, E5.out⟩
    | false =>
    rw [if_neg (by simp [s1, s2])] at hel
    have HEL := hide hel
    clear hel
    go_wp2_with ((first | ((go_at_call_of 32 (Value.string u); with_reducible refine (HNM.out _).mono ?_); rintro e w' ⟨rfl, rfl⟩) | ((go_at_call_of 32 (Value.string i); with_reducible refine (HNI.out _).mono ?_); rintro e w' ⟨rfl, rfl⟩)))
    go_quiet (fail)
    go_wp2_with fail
    have hel := HEL.out
    refine (HLI.out _ (Ext.trans HX.out (by repeat' (first | (with_reducible exact Below.refl _ _) | (with_reducible assumption) | (with_reducible refine below_drewN ?_ _) | (with_reducible refine Below.drew ?_) | (with_reducible refine ext_alloc ?_ _) | (with_reducible refine Below.setCell ?_ ?_ _) | go_size)))).mono ?_
    rintro e w5 ⟨rfl, e5⟩
    have E5 := hide (Ext.trans (Ext.trans HX.out (by repeat' (first | (with_reducible exact Below.refl _ _) | (with_reducible assumption) | (with_reducible refine below_drewN ?_ _) | (with_reducible refine Below.drew ?_) | (with_reducible refine ext_alloc ?_ _) | (with_reducible refine Below.setCell ?_ ?_ _) | go_size))) e5)
    clear e5
    generalize licF pf pt f t g O = r at *
    by_cases hr : r = 0
    · have HN2 := hide (HN.out (hel.trans hr))
      subst hr
      clear hel
      go_wp2_with fail
      go_roundw
      case rel => exact ⟨k + 1, by omega, by go_num, HN2, hide E5.out⟩
      case measure => simp [intOf]; omega
    have HF2 : Hid (licsF L = r) := hide (by rw [HY.out (by omega), hel])
    have hr' : (r != 0) = true := by rw [bne_iff_ne]; exact hr
    clear hel hr
    go_wp2_with fail
    go_ret
    exact ⟨ret_int HF2.out.symm, E5.out⟩
set_option linter.unusedSimpArgs false in
set_option maxRecDepth 100000 in
set_option maxHeartbeats 8000000 in
theorem keyLics_any {A : Option Addr} {n c : Nat} {L : List LicM} {w : World} (h : At w 8 eL A n c L) (ho : Outs w L) (hg : ∀ x ∈ L, okL x) :
    Calls Try.prog 19 #[.slice A n c] w fun e w' => e = .returned (.int .i64 (licsF L)) ∧ Ext w w' := by
  have hb := h.bound
  have HLN := hide h.len
  have H := hide h
  have HOO := hide ho
  have HG := hide hg
  clear h hg ho
  by_cases h2 : 200 < n
  · have HF : Hid (licsF L = 2) := hide (by unfold licsF; rw [if_pos (by have := HLN.out; omega)])
    go_enter Try.func19, Try.ntmps19
    go_wp2_with fail
    go_ret
    exact ⟨ret_int HF.out.symm, (by repeat' (first | (with_reducible exact Below.refl _ _) | (with_reducible assumption) | (with_reducible refine below_drewN ?_ _) | (with_reducible refine Below.drew ?_) | (with_reducible refine ext_alloc ?_ _) | (with_reducible refine Below.setCell ?_ ?_ _) | go_size))⟩
  have HF : Hid (licsF L = firstF (licEl L) n) := hide (by unfold licsF; rw [if_neg (by have := HLN.out; omega), HLN.out])
  go_enter Try.func19, Try.ntmps19
  go_wp2_with fail
  go_loopw [11] (fun ri wr => ∃ k : Nat, k ≤ n ∧ ri = .int .i64 k ∧ Hid (∀ j, j < k → licEl L j = 0) ∧ Hid (Ext w wr)) (fun ri _ => n - (intOf ri).toNat)
  case atStart => exact ⟨0, by omega, rfl, hide (fun j hj => by omega), hide (Ext.refl _)⟩
  case round =>
    obtain ⟨k, hk, rfl, HZ, HX⟩ := hrel
    by_cases hlt : k < n
    rotate_left
    · have HF2 : Hid (licsF L = 0) := hide (by rw [HF.out, firstF_zero (fun j hj => HZ.out j (by omega))])
      go_wp2_with fail
      go_ret
      exact ⟨ret_int HF2.out.symm, HX.out⟩
    have HW := hide (H.out.ext HX.out)
    obtain ⟨b, off, rfl, _⟩ := H.out.addr (by omega)
    have a0 := HW.out.cellK hlt d0L 0 _ rfl
    have a1 := HW.out.cellK hlt d0L 1 _ rfl
    have a2 := HW.out.cellK hlt d0L 2 _ rfl
    have a3 := HW.out.cellK hlt d0L 3 _ rfl
    have a4 := HW.out.cellK hlt d0L 4 _ rfl
    have a5 := HW.out.cellK hlt d0L 5 _ rfl
    have a6 := HW.out.cellK hlt d0L 6 _ rfl
    have a7 := HW.out.cellK hlt d0L 7 _ rfl
    simp only [Nat.add_zero] at a0
    have hok := HG.out _ (getD_mem L k d0L (by have := HLN.out; omega))
    have hat := HOO.out _ (getD_mem L k d0L (by have := HLN.out; omega))
    have HNM := hide (fun (W : World) => isName_any (L.getD k d0L).1.user hok.1 W)
    have HNI := hide (fun (W : World) => isName_any (L.getD k d0L).1.id hok.2.1 W)
    have HLI := hide (fun (W : World) (hW : Ext w W) => keyLic_any (L.getD k d0L).1.user (L.getD k d0L).1.id (L.getD k d0L).1.pf (L.getD k d0L).1.pt (L.getD k d0L).1.frm (L.getD k d0L).1.upto (L.getD k d0L).1.long (hat.ext hW) hok.2.2)
    have HP := hide (fun (h0 : 0 < k) => (⟨HW.out.cellK (k := k - 1) (by omega) d0L 0 _ rfl, HW.out.cellK (k := k - 1) (by omega) d0L 1 _ rfl⟩ : _ ∧ _))
    have hel : licEl L k = if nameB (L.getD k d0L).1.user = false ∨ nameB (L.getD k d0L).1.id = false then 5 else if 0 < k ∧ pairLe (L.getD k d0L).1.user (L.getD k d0L).1.id (L.getD (k - 1) d0L).1.user (L.getD (k - 1) d0L).1.id = true then 8 else licF (L.getD k d0L).1.pf (L.getD k d0L).1.pt (L.getD k d0L).1.frm (L.getD k d0L).1.upto (L.getD k d0L).1.long (L.getD k d0L).1.outs := rfl
    have HY : Hid (licEl L k ≠ 0 → licsF L = licEl L k) := hide (fun hz => by rw [HF.out, firstF_at HZ.out hz hlt])
    have HN : Hid (licEl L k = 0 → ∀ j, j < k + 1 → licEl L j = 0) := hide (fun hz j hj => by
      rcases Nat.lt_succ_iff_lt_or_eq.1 hj with h | h
      · exact HZ.out j h
      · rw [h]; exact hz)
    clear hok hat
    generalize licEl L k = z at *
    generalize L.getD k d0L = x at *
    obtain ⟨⟨u, i, pf, pt, f, t, g, O⟩, A', n', c'⟩ := x
    simp only at a0 a1 a2 a3 a4 a5 a6 a7 hel HNM HNI HLI
    cases hn : nameB u with
    | false =>
      rw [if_pos (.inl hn)] at hel
      have HF2 : Hid (licsF L = 5) := hide (by rw [HY.out (by omega), hel])
      rw [hn] at HNM
      clear hel hn
      go_wp2_with ((first | ((go_at_call_of 27 (Value.string u); with_reducible refine (HNM.out _).mono ?_); rintro e w' ⟨rfl, rfl⟩) | ((go_at_call_of 27 (Value.string i); with_reducible refine (HNI.out _).mono ?_); rintro e w' ⟨rfl, rfl⟩)))
      go_ret
      exact ⟨ret_int HF2.out.symm, Ext.trans HX.out (by repeat' (first | (with_reducible exact Below.refl _ _) | (with_reducible assumption) | (with_reducible refine below_drewN ?_ _) | (with_reducible refine Below.drew ?_) | (with_reducible refine ext_alloc ?_ _) | (with_reducible refine Below.setCell ?_ ?_ _) | go_size))⟩
    | true =>
    cases hn2 : nameB i with
    | false =>
      rw [if_pos (.inr hn2)] at hel
      have HF2 : Hid (licsF L = 5) := hide (by rw [HY.out (by omega), hel])
      rw [hn] at HNM
      rw [hn2] at HNI
      clear hel hn hn2
      go_wp2_with ((first | ((go_at_call_of 27 (Value.string u); with_reducible refine (HNM.out _).mono ?_); rintro e w' ⟨rfl, rfl⟩) | ((go_at_call_of 27 (Value.string i); with_reducible refine (HNI.out _).mono ?_); rintro e w' ⟨rfl, rfl⟩)))
      go_ret
      exact ⟨ret_int HF2.out.symm, Ext.trans HX.out (by repeat' (first | (with_reducible exact Below.refl _ _) | (with_reducible assumption) | (with_reducible refine below_drewN ?_ _) | (with_reducible refine Below.drew ?_) | (with_reducible refine ext_alloc ?_ _) | (with_reducible refine Below.setCell ?_ ?_ _) | go_size))⟩
    | true =>
    rw [if_neg (by simp [hn, hn2])] at hel
    rw [hn] at HNM
    rw [hn2] at HNI
    clear hn hn2
    rcases Nat.eq_zero_or_pos k with hk0 | hk0
    · have g0 : decide ((0 : Int) < (k : Int)) = false := by simp; omega
      have g00 : decide (0 < k) = false := by simp; omega
      rw [if_neg (by omega)] at hel
      clear hk0 HP
      have HEL := hide hel
      clear hel
      go_wp2_with ((first | ((go_at_call_of 27 (Value.string u); with_reducible refine (HNM.out _).mono ?_); rintro e w' ⟨rfl, rfl⟩) | ((go_at_call_of 27 (Value.string i); with_reducible refine (HNI.out _).mono ?_); rintro e w' ⟨rfl, rfl⟩)))
      refine region_any (by kernel_rfl) ?_
      refine any_take (i := 0) (d := 26) (oi := _) (v := ?_) rfl rfl (by kernel_rfl) (by kernel_rfl) (by kernel_rfl) (fun _ _ _ h => h) (Or.inl ⟨by rfl, ?_⟩) ?_
      rotate_left
      · intro W; first | (go_simp; done) | (go_simp; with_reducible rfl)
      simp only [Act.put, List.setIfInBounds_toArray, List.set_cons_zero, List.set_cons_succ]
      refine any_take (i := 1) (d := 27) (oi := _) (v := ?_) rfl rfl (by kernel_rfl) (by kernel_rfl) (by kernel_rfl) (fun _ _ _ h => h) (Or.inl ⟨by rfl, ?_⟩) ?_
      rotate_left
      · intro W; first | (go_simp; done) | (go_simp; with_reducible rfl)
      simp only [Act.put, List.setIfInBounds_toArray, List.set_cons_zero, List.set_cons_succ]
      refine any_take (i := 2) (d := 28) (oi := _) (v := ?_) rfl rfl (by kernel_rfl) (by kernel_rfl) (by kernel_rfl) (fun _ _ _ h => h) (Or.inl ⟨by rfl, ?_⟩) ?_
      rotate_left
      · intro W; first | (go_simp; done) | (go_simp; with_reducible rfl)
      simp only [Act.put, List.setIfInBounds_toArray, List.set_cons_zero, List.set_cons_succ]
      refine any_take (i := 3) (d := 29) (oi := _) (v := undef) rfl rfl (by kernel_rfl) (by kernel_rfl) (by kernel_rfl) (fun _ _ _ h => h) (Or.inr ⟨by rfl, rfl⟩) ?_
      simp only [Act.put, List.setIfInBounds_toArray, List.set_cons_zero, List.set_cons_succ]
      refine any_take (i := 4) (d := 30) (oi := _) (v := undef) rfl rfl (by kernel_rfl) (by kernel_rfl) (by kernel_rfl) (fun _ _ _ h => h) (Or.inr ⟨by rfl, rfl⟩) ?_
      simp only [Act.put, List.setIfInBounds_toArray, List.set_cons_zero, List.set_cons_succ]
      refine any_take (i := 5) (d := 31) (oi := _) (v := undef) rfl rfl (by kernel_rfl) (by kernel_rfl) (by kernel_rfl) (fun _ _ _ h => h) (Or.inr ⟨by rfl, rfl⟩) ?_
      simp only [Act.put, List.setIfInBounds_toArray, List.set_cons_zero, List.set_cons_succ]
      refine any_take (i := 6) (d := 32) (oi := _) (v := undef) rfl rfl (by kernel_rfl) (by kernel_rfl) (by kernel_rfl) (fun _ _ _ h => h) (Or.inr ⟨by rfl, rfl⟩) ?_
      simp only [Act.put, List.setIfInBounds_toArray, List.set_cons_zero, List.set_cons_succ]
      refine any_take (i := 7) (d := 33) (oi := _) (v := undef) rfl rfl (by kernel_rfl) (by kernel_rfl) (by kernel_rfl) (fun _ _ _ h => h) (Or.inr ⟨by rfl, rfl⟩) ?_
      simp only [Act.put, List.setIfInBounds_toArray, List.set_cons_zero, List.set_cons_succ]
      refine any_take (i := 8) (d := 34) (oi := _) (v := undef) rfl rfl (by kernel_rfl) (by kernel_rfl) (by kernel_rfl) (fun _ _ _ h => h) (Or.inr ⟨by rfl, rfl⟩) ?_
      simp only [Act.put, List.setIfInBounds_toArray, List.set_cons_zero, List.set_cons_succ]
      refine any_take (i := 9) (d := 35) (oi := _) (v := undef) rfl rfl (by kernel_rfl) (by kernel_rfl) (by kernel_rfl) (fun _ _ _ h => h) (Or.inr ⟨by rfl, rfl⟩) ?_
      simp only [Act.put, List.setIfInBounds_toArray, List.set_cons_zero, List.set_cons_succ]
      refine any_take (i := 10) (d := 36) (oi := _) (v := undef) rfl rfl (by kernel_rfl) (by kernel_rfl) (by kernel_rfl) (fun _ _ _ h => h) (Or.inr ⟨by rfl, rfl⟩) ?_
      simp only [Act.put, List.setIfInBounds_toArray, List.set_cons_zero, List.set_cons_succ]
      refine any_take (i := 11) (d := 37) (oi := _) (v := undef) rfl rfl (by kernel_rfl) (by kernel_rfl) (by kernel_rfl) (fun _ _ _ h => h) (Or.inr ⟨by rfl, rfl⟩) ?_
      simp only [Act.put, List.setIfInBounds_toArray, List.set_cons_zero, List.set_cons_succ]
      refine any_take (i := 12) (d := 38) (oi := _) (v := undef) rfl rfl (by kernel_rfl) (by kernel_rfl) (by kernel_rfl) (fun _ _ _ h => h) (Or.inr ⟨by rfl, rfl⟩) ?_
      simp only [Act.put, List.setIfInBounds_toArray, List.set_cons_zero, List.set_cons_succ]
      refine any_take (i := 13) (d := 39) (oi := _) (v := undef) rfl rfl (by kernel_rfl) (by kernel_rfl) (by kernel_rfl) (fun _ _ _ h => h) (Or.inr ⟨by rfl, rfl⟩) ?_
      simp only [Act.put, List.setIfInBounds_toArray, List.set_cons_zero, List.set_cons_succ]
      refine any_take (i := 14) (d := 40) (oi := _) (v := undef) rfl rfl (by kernel_rfl) (by kernel_rfl) (by kernel_rfl) (fun _ _ _ h => h) (Or.inr ⟨by rfl, rfl⟩) ?_
      simp only [Act.put, List.setIfInBounds_toArray, List.set_cons_zero, List.set_cons_succ]
      refine any_take (i := 15) (d := 41) (oi := _) (v := undef) rfl rfl (by kernel_rfl) (by kernel_rfl) (by kernel_rfl) (fun _ _ _ h => h) (Or.inr ⟨by rfl, rfl⟩) ?_
      simp only [Act.put, List.setIfInBounds_toArray, List.set_cons_zero, List.set_cons_succ]
      refine any_take (i := 16) (d := 42) (oi := _) (v := undef) rfl rfl (by kernel_rfl) (by kernel_rfl) (by kernel_rfl) (fun _ _ _ h => h) (Or.inr ⟨by rfl, rfl⟩) ?_
      simp only [Act.put, List.setIfInBounds_toArray, List.set_cons_zero, List.set_cons_succ]
      refine any_take (i := 17) (d := 43) (oi := _) (v := undef) rfl rfl (by kernel_rfl) (by kernel_rfl) (by kernel_rfl) (fun _ _ _ h => h) (Or.inr ⟨by rfl, rfl⟩) ?_
      simp only [Act.put, List.setIfInBounds_toArray, List.set_cons_zero, List.set_cons_succ]
      refine any_take (i := 18) (d := 44) (oi := _) (v := undef) rfl rfl (by kernel_rfl) (by kernel_rfl) (by kernel_rfl) (fun _ _ _ h => h) (Or.inr ⟨by rfl, rfl⟩) ?_
      simp only [Act.put, List.setIfInBounds_toArray, List.set_cons_zero, List.set_cons_succ]
      refine any_take (i := 19) (d := 45) (oi := _) (v := undef) rfl rfl (by kernel_rfl) (by kernel_rfl) (by kernel_rfl) (fun _ _ _ h => h) (Or.inr ⟨by rfl, rfl⟩) ?_
      simp only [Act.put, List.setIfInBounds_toArray, List.set_cons_zero, List.set_cons_succ]
      refine any_take (i := 20) (d := 46) (oi := _) (v := undef) rfl rfl (by kernel_rfl) (by kernel_rfl) (by kernel_rfl) (fun _ _ _ h => h) (Or.inr ⟨by rfl, rfl⟩) ?_
      simp only [Act.put, List.setIfInBounds_toArray, List.set_cons_zero, List.set_cons_succ]
      refine any_take (i := 21) (d := 47) (oi := _) (v := undef) rfl rfl (by kernel_rfl) (by kernel_rfl) (by kernel_rfl) (fun _ _ _ h => h) (Or.inr ⟨by rfl, rfl⟩) ?_
      simp only [Act.put, List.setIfInBounds_toArray, List.set_cons_zero, List.set_cons_succ]
      refine any_take (i := 22) (d := 48) (oi := _) (v := undef) rfl rfl (by kernel_rfl) (by kernel_rfl) (by kernel_rfl) (fun _ _ _ h => h) (Or.inr ⟨by rfl, rfl⟩) ?_
      simp only [Act.put, List.setIfInBounds_toArray, List.set_cons_zero, List.set_cons_succ]
      refine any_take (i := 23) (d := 49) (oi := _) (v := ?_) rfl rfl (by kernel_rfl) (by kernel_rfl) (by kernel_rfl) (fun _ _ _ h => h) (Or.inl ⟨by rfl, ?_⟩) ?_
      rotate_left
      · intro W; first | (go_simp; done) | (go_simp; with_reducible rfl)
      simp only [Act.put, List.setIfInBounds_toArray, List.set_cons_zero, List.set_cons_succ]
      refine wpAny_done (by kernel_rfl) ?_ _
      go_wp2_with fail
      have hel := HEL.out
      refine (HLI.out _ (Ext.trans HX.out (by repeat' (first | (with_reducible exact Below.refl _ _) | (with_reducible assumption) | (with_reducible refine below_drewN ?_ _) | (with_reducible refine Below.drew ?_) | (with_reducible refine ext_alloc ?_ _) | (with_reducible refine Below.setCell ?_ ?_ _) | go_size)))).mono ?_
      rintro e w5 ⟨rfl, e5⟩
      have E5 := hide (Ext.trans (Ext.trans HX.out (by repeat' (first | (with_reducible exact Below.refl _ _) | (with_reducible assumption) | (with_reducible refine below_drewN ?_ _) | (with_reducible refine Below.drew ?_) | (with_reducible refine ext_alloc ?_ _) | (with_reducible refine Below.setCell ?_ ?_ _) | go_size))) e5)
      clear e5
      generalize licF pf pt f t g O = r at *
      by_cases hr : r = 0
      · have HN2 := hide (HN.out (hel.trans hr))
        subst hr
        clear hel
        go_wp2_with fail
        go_roundw
        case rel => exact ⟨k + 1, by omega, by go_num, HN2, hide E5.out⟩
        case measure => simp [intOf]; omega
      have HF2 : Hid (licsF L = r) := hide (by rw [HY.out (by omega), hel])
      have hr' : (r != 0) = true := by rw [bne_iff_ne]; exact hr
      clear hel hr
      go_wp2_with fail
      go_ret
      exact ⟨ret_int HF2.out.symm, E5.out⟩
    have g0 : decide ((0 : Int) < (k : Int)) = true := by simp; omega
    have g00 : decide (0 < k) = true := by simp; omega
    have j2 : IntKind.i64.wrap ((k : Int) - 1) = (k : Int) - 1 := by rw [IntKind.wrap_i64]; omega
    have j3 : ((k : Int) - 1).toNat = k - 1 := by omega
    have j4 : 0 ≤ (k : Int) - 1 := by omega
    have j5 : (k : Int) - 1 < (n : Int) := by omega
    have j7 : 1 ≤ (k : Int) := by omega
    have j8 : (k : Int) ≤ (n : Int) := by omega
    obtain ⟨p0, p1⟩ := HP.out hk0
    simp only [Nat.add_zero] at p0 p1
    generalize (L.getD (k - 1) d0L).1.user = v at *
    generalize (L.getD (k - 1) d0L).1.id = j at *
    have q0 := (Ext.alloc wr (.cells #[.string u, .string i, .int .i64 pf, .int .i64 pt, .int .i64 f, .int .i64 t, .int .i64 g, .slice A' n' c'] 74)).cell p0
    have q1 := (Ext.alloc wr (.cells #[.string u, .string i, .int .i64 pf, .int .i64 pt, .int .i64 f, .int .i64 t, .int .i64 g, .slice A' n' c'] 74)).cell p1
    clear HP p0 p1
    rw [← cmp2_le] at hel
    have HCM := hide (fun (W : World) (g1 g2 : Nat) (h1 : Blk W g1 9 #[.string u, .string i]) (h2 : Blk W g2 9 #[.string v, .string j]) => cmp2_any h1 h2)
    generalize cmp2V u i v j = cr at *
    have d0 := (Blk.new wr 74 #[.string u, .string i, .int .i64 pf, .int .i64 pt, .int .i64 f, .int .i64 t, .int .i64 g, .slice A' n' c']).cell 0
    have d1 := (Blk.new wr 74 #[.string u, .string i, .int .i64 pf, .int .i64 pt, .int .i64 f, .int .i64 t, .int .i64 g, .slice A' n' c']).cell 1
    have HS := hide (fun (W : World) (hW : Ext (wr.alloc (.cells #[.string u, .string i, .int .i64 pf, .int .i64 pt, .int .i64 f, .int .i64 t, .int .i64 g, .slice A' n' c'] 74)) W) => (⟨hW.cell d0, hW.cell d1, hW.cell q0, hW.cell q1⟩ : _ ∧ _ ∧ _ ∧ _))
    clear d0 d1 q0 q1
    cases hv : decide (cr ≤ 0) with
    | true =>
      rw [if_pos ⟨hk0, hv⟩] at hel
      have HF2 : Hid (licsF L = 8) := hide (by rw [HY.out (by omega), hel])
      clear hel
      go_wp2_with ((first | ((go_at_call_of 27 (Value.string u); with_reducible refine (HNM.out _).mono ?_); rintro e w' ⟨rfl, rfl⟩) | ((go_at_call_of 27 (Value.string i); with_reducible refine (HNI.out _).mono ?_); rintro e w' ⟨rfl, rfl⟩)))
      go_region_held3 (fun w' => w'.cell? ⟨wr.heap.size, 0, none⟩ = some (.string u) ∧ w'.cell? ⟨wr.heap.size, 1, none⟩ = some (.string i) ∧ w'.cell? ⟨b, off + (k - 1) * 8, none⟩ = some (.string v) ∧ w'.cell? ⟨b, off + (k - 1) * 8 + 1, none⟩ = some (.string j)) (exact HS.out _ (by repeat' (first | (with_reducible exact Below.refl _ _) | (with_reducible assumption) | (with_reducible refine below_drewN ?_ _) | (with_reducible refine Below.drew ?_) | (with_reducible refine ext_alloc ?_ _) | (with_reducible refine Below.setCell ?_ ?_ _) | go_size))) (first | ((go_at_call 39; with_reducible refine (HCM.out _ _ _ (by first | exact Blk.new1 _ _ _ _ | exact (Blk.new1 _ _ _ _).drew | exact (Blk.new1 _ _ _ _).alloc _ | exact ((Blk.new1 _ _ _ _).alloc _).drew | exact Blk.new2 _ _ _ _ _ | exact (Blk.new2 _ _ _ _ _).drew) (by first | exact Blk.new1 _ _ _ _ | exact (Blk.new1 _ _ _ _).drew | exact (Blk.new1 _ _ _ _).alloc _ | exact ((Blk.new1 _ _ _ _).alloc _).drew | exact Blk.new2 _ _ _ _ _ | exact (Blk.new2 _ _ _ _ _).drew)).mono ?_); rintro e w' ⟨rfl, rfl⟩))
      all_goals go_wp2_with fail
      all_goals go_ret
      all_goals exact ⟨ret_int HF2.out.symm, Ext.trans HX.out (by repeat' (first | (with_reducible exact Below.refl _ _) | (with_reducible assumption) | (with_reducible refine below_drewN ?_ _) | (with_reducible refine Below.drew ?_) | (with_reducible refine ext_alloc ?_ _) | (with_reducible refine Below.setCell ?_ ?_ _) | go_size))⟩
    | false =>
    rw [if_neg (by simp [hv])] at hel
    have HEL := hide hel
    clear hel
    go_wp2_with ((first | ((go_at_call_of 27 (Value.string u); with_reducible refine (HNM.out _).mono ?_); rintro e w' ⟨rfl, rfl⟩) | ((go_at_call_of 27 (Value.string i); with_reducible refine (HNI.out _).mono ?_); rintro e w' ⟨rfl, rfl⟩)))
    go_region_held3 (fun w' => w'.cell? ⟨wr.heap.size, 0, none⟩ = some (.string u) ∧ w'.cell? ⟨wr.heap.size, 1, none⟩ = some (.string i) ∧ w'.cell? ⟨b, off + (k - 1) * 8, none⟩ = some (.string v) ∧ w'.cell? ⟨b, off + (k - 1) * 8 + 1, none⟩ = some (.string j)) (exact HS.out _ (by repeat' (first | (with_reducible exact Below.refl _ _) | (with_reducible assumption) | (with_reducible refine below_drewN ?_ _) | (with_reducible refine Below.drew ?_) | (with_reducible refine ext_alloc ?_ _) | (with_reducible refine Below.setCell ?_ ?_ _) | go_size))) (first | ((go_at_call 39; with_reducible refine (HCM.out _ _ _ (by first | exact Blk.new1 _ _ _ _ | exact (Blk.new1 _ _ _ _).drew | exact (Blk.new1 _ _ _ _).alloc _ | exact ((Blk.new1 _ _ _ _).alloc _).drew | exact Blk.new2 _ _ _ _ _ | exact (Blk.new2 _ _ _ _ _).drew) (by first | exact Blk.new1 _ _ _ _ | exact (Blk.new1 _ _ _ _).drew | exact (Blk.new1 _ _ _ _).alloc _ | exact ((Blk.new1 _ _ _ _).alloc _).drew | exact Blk.new2 _ _ _ _ _ | exact (Blk.new2 _ _ _ _ _).drew)).mono ?_); rintro e w' ⟨rfl, rfl⟩))
    all_goals go_wp2_with fail
    all_goals
      have hel := HEL.out
      refine (HLI.out _ (Ext.trans HX.out (by repeat' (first | (with_reducible exact Below.refl _ _) | (with_reducible assumption) | (with_reducible refine below_drewN ?_ _) | (with_reducible refine Below.drew ?_) | (with_reducible refine ext_alloc ?_ _) | (with_reducible refine Below.setCell ?_ ?_ _) | go_size)))).mono ?_
      rintro e w5 ⟨rfl, e5⟩
      have E5 := hide (Ext.trans (Ext.trans HX.out (by repeat' (first | (with_reducible exact Below.refl _ _) | (with_reducible assumption) | (with_reducible refine below_drewN ?_ _) | (with_reducible refine Below.drew ?_) | (with_reducible refine ext_alloc ?_ _) | (with_reducible refine Below.setCell ?_ ?_ _) | go_size))) e5)
      clear e5
      generalize licF pf pt f t g O = r at *
      by_cases hr : r = 0
      · have HN2 := hide (HN.out (hel.trans hr))
        subst hr
        clear hel
        go_wp2_with fail
        go_roundw
        case rel => exact ⟨k + 1, by omega, by go_num, HN2, hide E5.out⟩
        case measure => simp [intOf]; omega
      have HF2 : Hid (licsF L = r) := hide (by rw [HY.out (by omega), hel])
      have hr' : (r != 0) = true := by rw [bne_iff_ne]; exact hr
      clear hel hr
      go_wp2_with fail
      go_ret
      exact ⟨ret_int HF2.out.symm, E5.out⟩
end Go.Proofs.Ytfpmjaeehhegcaa
