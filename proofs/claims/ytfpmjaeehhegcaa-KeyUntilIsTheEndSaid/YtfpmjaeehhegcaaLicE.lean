/- Walks: May (both). Conditions: strings are no longer than strings can be. -/
import Derived.Test.YtfpmjaeehhegcaaLicD
import Derived.Test.YtfpmjaeehhegcaaAwake
namespace Go.Proofs.Ytfpmjaeehhegcaa
open Go.RowKit

/-- Who asks for what. -/
abbrev whoV (us : ByteArray) (p : Int) (os : ByteArray) (ht : Int) : WhoT ByteArray := ⟨us, p, os, ht⟩
def lvs (L : List LicM) : List LicV := L.map (·.1)
theorem licF_ok {pf pt f t g : Int} {O : List OutV} (h : licF pf pt f t g O = 0) : (0 ≤ t ∧ t ≤ 1000000000000000) ∧ (0 ≤ g ∧ g ≤ 1000000000000000) := by
  unfold licF at h
  by_cases c0 : pf < 0 ∨ 1000000000 < pf
  · rw [if_pos c0] at h; omega
  rw [if_neg c0] at h
  by_cases c1 : pt ≤ pf
  · rw [if_pos c1] at h; omega
  rw [if_neg c1] at h
  by_cases c2 : 1000000001 < pt ∨ (f < 0 ∨ 1000000000000000 < f) ∨ (t < 0 ∨ 1000000000000000 < t)
  · rw [if_pos c2] at h; omega
  rw [if_neg c2] at h
  by_cases c3 : t ≤ f
  · rw [if_pos c3] at h; omega
  rw [if_neg c3] at h
  by_cases c4 : g < 0 ∨ 1000000000000000 < g
  · rw [if_pos c4] at h; omega
  omega
theorem licsF_ok {L : List LicM} (h : licsF L = 0) : L.length ≤ 200 ∧ ∀ x ∈ L, (0 ≤ x.1.upto ∧ x.1.upto ≤ 1000000000000000) ∧ (0 ≤ x.1.long ∧ x.1.long ≤ 1000000000000000) := by
  unfold licsF at h
  by_cases h1 : 200 < L.length
  · rw [if_pos h1] at h; omega
  rw [if_neg h1] at h
  refine ⟨by omega, fun x hx => ?_⟩
  obtain ⟨j, hj, rfl⟩ := mem_getD d0L hx
  have e := firstF_all h j hj
  unfold licEl at e
  by_cases c0 : nameB (L.getD j d0L).1.user = false ∨ nameB (L.getD j d0L).1.id = false
  · rw [if_pos c0] at e; omega
  rw [if_neg c0] at e
  by_cases c1 : 0 < j ∧ pairLe (L.getD j d0L).1.user (L.getD j d0L).1.id (L.getD (j - 1) d0L).1.user (L.getD (j - 1) d0L).1.id = true
  · rw [if_pos c1] at e; omega
  rw [if_neg c1] at e
  exact licF_ok e
/-- The first licence that permits it. -/
def mayR (q : WhoT ByteArray) (F T : Int) (L : List LicM) : ByteArray × Bool := match L.find? fun x => permB q F T x.1 with | some x => (x.1.id, true) | none => (ByteArray.empty, false)
theorem mayR_at {q : WhoT ByteArray} {F T : Int} {L : List LicM} {k : Nat} (hk : k < L.length) (h : permB q F T (L.getD k d0L).1 = true) (ha : ∀ j, j < k → permB q F T (L.getD j d0L).1 = false) : mayR q F T L = ((L.getD k d0L).1.id, true) := by
  unfold mayR
  have : L.find? (fun x => permB q F T x.1) = some (L.getD k d0L) := by
    rw [List.find?_eq_some_iff_getElem]
    refine ⟨h, k, hk, by simp [List.getD, hk], fun j hj => ?_⟩
    have := ha j hj
    have hjl : j < L.length := by omega
    simpa [List.getD, hjl] using this
  rw [this]
theorem mayR_no {q : WhoT ByteArray} {F T : Int} {L : List LicM} (ha : ∀ j, j < L.length → permB q F T (L.getD j d0L).1 = false) : mayR q F T L = (ByteArray.empty, false) := by
  unfold mayR
  have : L.find? (fun x => permB q F T x.1) = none := by
    rw [List.find?_eq_none]
    intro x hx
    obtain ⟨j, hj, rfl⟩ := mem_getD d0L hx
    intro he
    rw [ha j hj] at he
    cases he
  rw [this]
def mayV (L : List LicM) (us : ByteArray) (p T F : Int) (os : ByteArray) (ht : Int) : ByteArray × Bool := if playF L us p T F os ht = 0 then mayR (whoV us p os ht) F T L else (ByteArray.empty, false)
set_option maxRecDepth 100000 in
set_option maxHeartbeats 8000000 in
theorem keyMay_any {A : Option Addr} {n c : Nat} {L : List LicM} {w : World} (h : At w 8 eL A n c L) (hO : Outs w L) (hg : ∀ x ∈ L, okL x) (us : ByteArray) (hus : us.size ≤ maxLen) (p T F : Int) (os : ByteArray) (hos : os.size ≤ maxLen) (ht : Int) :
    Calls Try.prog 17 #[.slice A n c, .string us, .int .i64 p, .agg #[.int .i64 T, .int .i64 F, .string os, .int .i64 ht]] w fun e w' =>
      e = .returned (.tuple #[.string (mayV L us p T F os ht).1, .bool (mayV L us p T F os ht).2, .int .i64 (playF L us p T F os ht)]) ∧ Ext w w' := by
  have HC := hide (fun (W : World) (hW : Ext w W) => keyPlayF_any (h.ext hW) (hO.ext hW) hg us hus p T F os hos ht)
  have HBX := hide (Blk.new w 44 #[.int .i64 T, .int .i64 F, .string os, .int .i64 ht])
  have hb := h.bound
  have HLN := hide h.len
  have H := hide h
  have HOO := hide hO
  clear h hg hus hos hO
  by_cases hz : playF L us p T F os ht = 0
  rotate_left
  · have hv : mayV L us p T F os ht = (ByteArray.empty, false) := by unfold mayV; rw [if_neg hz]
    rw [hv]
    have hb' : (playF L us p T F os ht != 0) = true := by rw [bne_iff_ne]; exact hz
    generalize playF L us p T F os ht = r at *
    clear hz hv
    go_enter Try.func17, Try.ntmps17
    go_wp2_with fail
    refine (HC.out _ (by repeat' (first | (with_reducible exact Below.refl _ _) | (with_reducible assumption) | (with_reducible refine below_drewN ?_ _) | (with_reducible refine Below.drew ?_) | (with_reducible refine ext_alloc ?_ _) | (with_reducible refine Below.setCell ?_ ?_ _) | go_size))).mono ?_
    rintro e w1 ⟨rfl, e1⟩
    have E1 := hide (show Ext w w1 from Ext.trans (by repeat' (first | (with_reducible exact Below.refl _ _) | (with_reducible assumption) | (with_reducible refine below_drewN ?_ _) | (with_reducible refine Below.drew ?_) | (with_reducible refine ext_alloc ?_ _) | (with_reducible refine Below.setCell ?_ ?_ _) | go_size)) e1)
    clear e1
    go_wp2_with fail
    go_ret3
    exact ⟨rfl, E1.out⟩
  have hv : mayV L us p T F os ht = mayR (whoV us p os ht) F T L := by unfold mayV; rw [if_pos hz]
  rw [hv, hz]
  obtain ⟨z0, _, _, z3, z4, _, _⟩ := playF_ok hz
  have hn := (licsF_ok z0).1
  have HOK := hide (licsF_ok z0).2
  rw [hz] at HC
  clear hv hz z0
  go_enter Try.func17, Try.ntmps17
  go_wp2_with fail
  refine (HC.out _ (by repeat' (first | (with_reducible exact Below.refl _ _) | (with_reducible assumption) | (with_reducible refine below_drewN ?_ _) | (with_reducible refine Below.drew ?_) | (with_reducible refine ext_alloc ?_ _) | (with_reducible refine Below.setCell ?_ ?_ _) | go_size))).mono ?_
  rintro e w1 ⟨rfl, e1⟩
  have E1 := hide (show Ext w w1 from Ext.trans (by repeat' (first | (with_reducible exact Below.refl _ _) | (with_reducible assumption) | (with_reducible refine below_drewN ?_ _) | (with_reducible refine Below.drew ?_) | (with_reducible refine ext_alloc ?_ _) | (with_reducible refine Below.setCell ?_ ?_ _) | go_size)) e1)
  have HB1 := hide (HBX.out.ext e1)
  clear e1
  go_wp2_with fail
  go_loopw [24] (fun ri wr => ∃ k : Nat, k ≤ n ∧ ri = .int .i64 k ∧ Hid (∀ j, j < k → permB (whoV us p os ht) F T (L.getD j d0L).1 = false) ∧ Hid (Ext w1 wr)) (fun ri _ => n - (intOf ri).toNat)
  case atStart => exact ⟨0, by omega, rfl, hide (fun j hj => by omega), hide (Ext.refl _)⟩
  case round =>
    obtain ⟨k, hk, rfl, HZ, HX⟩ := hrel
    have HWX := hide (Ext.trans E1.out HX.out)
    by_cases hlt : k < n
    rotate_left
    · have HF : Hid (mayR (whoV us p os ht) F T L = (ByteArray.empty, false)) := hide (mayR_no (fun j hj => HZ.out j (by have := HLN.out; omega)))
      go_wp2_with fail
      go_ret3
      rw [HF.out]
      exact ⟨rfl, HWX.out⟩
    have HW := hide (H.out.ext HWX.out)
    have hb1 := HB1.out.ext HX.out
    obtain ⟨b, off, rfl, _⟩ := H.out.addr (by omega)
    have a0 := HW.out.cellK hlt d0L 0 _ rfl
    have a1 := HW.out.cellK hlt d0L 1 _ rfl
    have a2 := HW.out.cellK hlt d0L 2 _ rfl
    have a3 := HW.out.cellK hlt d0L 3 _ rfl
    have a4 := HW.out.cellK hlt d0L 4 _ rfl
    have a5 := HW.out.cellK hlt d0L 5 _ rfl
    have a6 := HW.out.cellK hlt d0L 6 _ rfl
    have a7 := HW.out.cellK hlt d0L 7 _ rfl
    simp only [Nat.add_zero] at a0
    have hkl : k < L.length := by have := HLN.out; omega
    have hat := HOO.out _ (getD_mem L k d0L hkl)
    have hok := (HOK.out _ (getD_mem L k d0L hkl)).2
    have HPE := hide (fun (W : World) (hW : Ext w W) => keyPerm_any (L.getD k d0L).1.user (L.getD k d0L).1.id (L.getD k d0L).1.pf (L.getD k d0L).1.pt (L.getD k d0L).1.frm (L.getD k d0L).1.upto (L.getD k d0L).1.long (hat.ext hW) us p T F os ht hok (by omega))
    have HY : Hid (permB (whoV us p os ht) F T (L.getD k d0L).1 = true → mayR (whoV us p os ht) F T L = ((L.getD k d0L).1.id, true)) := hide (fun hq => mayR_at hkl hq HZ.out)
    have HN : Hid (permB (whoV us p os ht) F T (L.getD k d0L).1 = false → ∀ j, j < k + 1 → permB (whoV us p os ht) F T (L.getD j d0L).1 = false) := hide (fun hz j hj => by
      rcases Nat.lt_succ_iff_lt_or_eq.1 hj with h | h
      · exact HZ.out j h
      · rw [h]; exact hz)
    clear hat hok hkl
    generalize L.getD k d0L = x at *
    obtain ⟨⟨u, i, pf, pt, f, t, g, O⟩, A', n', c'⟩ := x
    simp only at a0 a1 a2 a3 a4 a5 a6 a7 HPE HY HN
    have x0 := (hb1.alloc (.cells #[.string u, .string i, .int .i64 pf, .int .i64 pt, .int .i64 f, .int .i64 t, .int .i64 g, .slice A' n' c'] 74)).cell 0
    have x1 := (hb1.alloc (.cells #[.string u, .string i, .int .i64 pf, .int .i64 pt, .int .i64 f, .int .i64 t, .int .i64 g, .slice A' n' c'] 74)).cell 1
    have x2 := (hb1.alloc (.cells #[.string u, .string i, .int .i64 pf, .int .i64 pt, .int .i64 f, .int .i64 t, .int .i64 g, .slice A' n' c'] 74)).cell 2
    have x3 := (hb1.alloc (.cells #[.string u, .string i, .int .i64 pf, .int .i64 pt, .int .i64 f, .int .i64 t, .int .i64 g, .slice A' n' c'] 74)).cell 3
    clear hb1
    cases hp : permB (whoV us p os ht) F T (⟨u, i, pf, pt, f, t, g, O⟩ : LicV) with
    | true =>
      have HF := hide (HY.out hp)
      rw [hp] at HPE
      clear hp
      go_wp2_with fail
      refine (HPE.out _ (Ext.trans HWX.out (by repeat' (first | (with_reducible exact Below.refl _ _) | (with_reducible assumption) | (with_reducible refine below_drewN ?_ _) | (with_reducible refine Below.drew ?_) | (with_reducible refine ext_alloc ?_ _) | (with_reducible refine Below.setCell ?_ ?_ _) | go_size)))).mono ?_
      rintro e w5 ⟨rfl, e5⟩
      have E5 := hide (Ext.trans (Ext.trans HWX.out (by repeat' (first | (with_reducible exact Below.refl _ _) | (with_reducible assumption) | (with_reducible refine below_drewN ?_ _) | (with_reducible refine Below.drew ?_) | (with_reducible refine ext_alloc ?_ _) | (with_reducible refine Below.setCell ?_ ?_ _) | go_size))) e5)
      have y1 := e5.cell ((Blk.new wr 74 #[.string u, .string i, .int .i64 pf, .int .i64 pt, .int .i64 f, .int .i64 t, .int .i64 g, .slice A' n' c']).cell 1)
      clear e5
      go_wp2_with fail
      go_ret3
      rw [HF.out]
      exact ⟨rfl, E5.out⟩
    | false =>
      have HN2 := hide (HN.out hp)
      rw [hp] at HPE
      clear hp
      go_wp2_with fail
      refine (HPE.out _ (Ext.trans HWX.out (by repeat' (first | (with_reducible exact Below.refl _ _) | (with_reducible assumption) | (with_reducible refine below_drewN ?_ _) | (with_reducible refine Below.drew ?_) | (with_reducible refine ext_alloc ?_ _) | (with_reducible refine Below.setCell ?_ ?_ _) | go_size)))).mono ?_
      rintro e w5 ⟨rfl, e5⟩
      have E5 := hide (Ext.trans (Ext.trans HX.out (by repeat' (first | (with_reducible exact Below.refl _ _) | (with_reducible assumption) | (with_reducible refine below_drewN ?_ _) | (with_reducible refine Below.drew ?_) | (with_reducible refine ext_alloc ?_ _) | (with_reducible refine Below.setCell ?_ ?_ _) | go_size))) e5)
      clear e5
      go_wp2_with fail
      go_roundw
      case rel => exact ⟨k + 1, by omega, by go_num, HN2, hide E5.out⟩
      case measure => simp [intOf]; omega
set_option maxRecDepth 100000 in
set_option maxHeartbeats 8000000 in
theorem refMay_any {A : Option Addr} {n c : Nat} {L : List LicM} {w : World} (h : At w 8 eL A n c L) (hO : Outs w L) (hg : ∀ x ∈ L, okL x) (us : ByteArray) (hus : us.size ≤ maxLen) (p T F : Int) (os : ByteArray) (hos : os.size ≤ maxLen) (ht : Int) :
    Calls Try.prog 18 #[.slice A n c, .string us, .int .i64 p, .agg #[.int .i64 T, .int .i64 F, .string os, .int .i64 ht]] w fun e w' =>
      e = .returned (.tuple #[.string (mayV L us p T F os ht).1, .bool (mayV L us p T F os ht).2, .int .i64 (playF L us p T F os ht)]) ∧ Ext w w' := by
  have HC := hide (fun (W : World) (hW : Ext w W) => refPlayF_any (h.ext hW) (hO.ext hW) hg us hus p T F os hos ht)
  have HBX := hide (Blk.new w 44 #[.int .i64 T, .int .i64 F, .string os, .int .i64 ht])
  have hb := h.bound
  have HLN := hide h.len
  have H := hide h
  have HOO := hide hO
  clear h hg hus hos hO
  by_cases hz : playF L us p T F os ht = 0
  rotate_left
  · have hv : mayV L us p T F os ht = (ByteArray.empty, false) := by unfold mayV; rw [if_neg hz]
    rw [hv]
    have hb' : (playF L us p T F os ht != 0) = true := by rw [bne_iff_ne]; exact hz
    generalize playF L us p T F os ht = r at *
    clear hz hv
    go_enter Try.func18, Try.ntmps18
    go_wp2_with fail
    refine (HC.out _ (by repeat' (first | (with_reducible exact Below.refl _ _) | (with_reducible assumption) | (with_reducible refine below_drewN ?_ _) | (with_reducible refine Below.drew ?_) | (with_reducible refine ext_alloc ?_ _) | (with_reducible refine Below.setCell ?_ ?_ _) | go_size))).mono ?_
    rintro e w1 ⟨rfl, e1⟩
    have E1 := hide (show Ext w w1 from Ext.trans (by repeat' (first | (with_reducible exact Below.refl _ _) | (with_reducible assumption) | (with_reducible refine below_drewN ?_ _) | (with_reducible refine Below.drew ?_) | (with_reducible refine ext_alloc ?_ _) | (with_reducible refine Below.setCell ?_ ?_ _) | go_size)) e1)
    clear e1
    go_wp2_with fail
    go_ret3
    exact ⟨rfl, E1.out⟩
  have hv : mayV L us p T F os ht = mayR (whoV us p os ht) F T L := by unfold mayV; rw [if_pos hz]
  rw [hv, hz]
  obtain ⟨z0, _, _, z3, z4, _, _⟩ := playF_ok hz
  have hn := (licsF_ok z0).1
  have HOK := hide (licsF_ok z0).2
  rw [hz] at HC
  clear hv hz z0
  go_enter Try.func18, Try.ntmps18
  go_wp2_with fail
  refine (HC.out _ (by repeat' (first | (with_reducible exact Below.refl _ _) | (with_reducible assumption) | (with_reducible refine below_drewN ?_ _) | (with_reducible refine Below.drew ?_) | (with_reducible refine ext_alloc ?_ _) | (with_reducible refine Below.setCell ?_ ?_ _) | go_size))).mono ?_
  rintro e w1 ⟨rfl, e1⟩
  have E1 := hide (show Ext w w1 from Ext.trans (by repeat' (first | (with_reducible exact Below.refl _ _) | (with_reducible assumption) | (with_reducible refine below_drewN ?_ _) | (with_reducible refine Below.drew ?_) | (with_reducible refine ext_alloc ?_ _) | (with_reducible refine Below.setCell ?_ ?_ _) | go_size)) e1)
  have HB1 := hide (HBX.out.ext e1)
  clear e1
  go_wp2_with fail
  go_loopw [24] (fun ri wr => ∃ k : Nat, k ≤ n ∧ ri = .int .i64 k ∧ Hid (∀ j, j < k → permB (whoV us p os ht) F T (L.getD j d0L).1 = false) ∧ Hid (Ext w1 wr)) (fun ri _ => n - (intOf ri).toNat)
  case atStart => exact ⟨0, by omega, rfl, hide (fun j hj => by omega), hide (Ext.refl _)⟩
  case round =>
    obtain ⟨k, hk, rfl, HZ, HX⟩ := hrel
    have HWX := hide (Ext.trans E1.out HX.out)
    by_cases hlt : k < n
    rotate_left
    · have HF : Hid (mayR (whoV us p os ht) F T L = (ByteArray.empty, false)) := hide (mayR_no (fun j hj => HZ.out j (by have := HLN.out; omega)))
      go_wp2_with fail
      go_ret3
      rw [HF.out]
      exact ⟨rfl, HWX.out⟩
    have HW := hide (H.out.ext HWX.out)
    have hb1 := HB1.out.ext HX.out
    obtain ⟨b, off, rfl, _⟩ := H.out.addr (by omega)
    have a0 := HW.out.cellK hlt d0L 0 _ rfl
    have a1 := HW.out.cellK hlt d0L 1 _ rfl
    have a2 := HW.out.cellK hlt d0L 2 _ rfl
    have a3 := HW.out.cellK hlt d0L 3 _ rfl
    have a4 := HW.out.cellK hlt d0L 4 _ rfl
    have a5 := HW.out.cellK hlt d0L 5 _ rfl
    have a6 := HW.out.cellK hlt d0L 6 _ rfl
    have a7 := HW.out.cellK hlt d0L 7 _ rfl
    simp only [Nat.add_zero] at a0
    have hkl : k < L.length := by have := HLN.out; omega
    have hat := HOO.out _ (getD_mem L k d0L hkl)
    have hok := (HOK.out _ (getD_mem L k d0L hkl)).2
    have HPE := hide (fun (W : World) (hW : Ext w W) => refPerm_any (L.getD k d0L).1.user (L.getD k d0L).1.id (L.getD k d0L).1.pf (L.getD k d0L).1.pt (L.getD k d0L).1.frm (L.getD k d0L).1.upto (L.getD k d0L).1.long (hat.ext hW) us p T F os ht hok (by omega))
    have HY : Hid (permB (whoV us p os ht) F T (L.getD k d0L).1 = true → mayR (whoV us p os ht) F T L = ((L.getD k d0L).1.id, true)) := hide (fun hq => mayR_at hkl hq HZ.out)
    have HN : Hid (permB (whoV us p os ht) F T (L.getD k d0L).1 = false → ∀ j, j < k + 1 → permB (whoV us p os ht) F T (L.getD j d0L).1 = false) := hide (fun hz j hj => by
      rcases Nat.lt_succ_iff_lt_or_eq.1 hj with h | h
      · exact HZ.out j h
      · rw [h]; exact hz)
    clear hat hok hkl
    generalize L.getD k d0L = x at *
    obtain ⟨⟨u, i, pf, pt, f, t, g, O⟩, A', n', c'⟩ := x
    simp only at a0 a1 a2 a3 a4 a5 a6 a7 HPE HY HN
    have x0 := (hb1.alloc (.cells #[.string u, .string i, .int .i64 pf, .int .i64 pt, .int .i64 f, .int .i64 t, .int .i64 g, .slice A' n' c'] 74)).cell 0
    have x1 := (hb1.alloc (.cells #[.string u, .string i, .int .i64 pf, .int .i64 pt, .int .i64 f, .int .i64 t, .int .i64 g, .slice A' n' c'] 74)).cell 1
    have x2 := (hb1.alloc (.cells #[.string u, .string i, .int .i64 pf, .int .i64 pt, .int .i64 f, .int .i64 t, .int .i64 g, .slice A' n' c'] 74)).cell 2
    have x3 := (hb1.alloc (.cells #[.string u, .string i, .int .i64 pf, .int .i64 pt, .int .i64 f, .int .i64 t, .int .i64 g, .slice A' n' c'] 74)).cell 3
    clear hb1
    cases hp : permB (whoV us p os ht) F T (⟨u, i, pf, pt, f, t, g, O⟩ : LicV) with
    | true =>
      have HF := hide (HY.out hp)
      rw [hp] at HPE
      clear hp
      go_wp2_with fail
      refine (HPE.out _ (Ext.trans HWX.out (by repeat' (first | (with_reducible exact Below.refl _ _) | (with_reducible assumption) | (with_reducible refine below_drewN ?_ _) | (with_reducible refine Below.drew ?_) | (with_reducible refine ext_alloc ?_ _) | (with_reducible refine Below.setCell ?_ ?_ _) | go_size)))).mono ?_
      rintro e w5 ⟨rfl, e5⟩
      have E5 := hide (Ext.trans (Ext.trans HWX.out (by repeat' (first | (with_reducible exact Below.refl _ _) | (with_reducible assumption) | (with_reducible refine below_drewN ?_ _) | (with_reducible refine Below.drew ?_) | (with_reducible refine ext_alloc ?_ _) | (with_reducible refine Below.setCell ?_ ?_ _) | go_size))) e5)
      have y1 := e5.cell ((Blk.new wr 74 #[.string u, .string i, .int .i64 pf, .int .i64 pt, .int .i64 f, .int .i64 t, .int .i64 g, .slice A' n' c']).cell 1)
      clear e5
      go_wp2_with fail
      go_ret3
      rw [HF.out]
      exact ⟨rfl, E5.out⟩
    | false =>
      have HN2 := hide (HN.out hp)
      rw [hp] at HPE
      clear hp
      go_wp2_with fail
      refine (HPE.out _ (Ext.trans HWX.out (by repeat' (first | (with_reducible exact Below.refl _ _) | (with_reducible assumption) | (with_reducible refine below_drewN ?_ _) | (with_reducible refine Below.drew ?_) | (with_reducible refine ext_alloc ?_ _) | (with_reducible refine Below.setCell ?_ ?_ _) | go_size)))).mono ?_
      rintro e w5 ⟨rfl, e5⟩
      have E5 := hide (Ext.trans (Ext.trans HX.out (by repeat' (first | (with_reducible exact Below.refl _ _) | (with_reducible assumption) | (with_reducible refine below_drewN ?_ _) | (with_reducible refine Below.drew ?_) | (with_reducible refine ext_alloc ?_ _) | (with_reducible refine Below.setCell ?_ ?_ _) | go_size))) e5)
      clear e5
      go_wp2_with fail
      go_roundw
      case rel => exact ⟨k + 1, by omega, by go_num, HN2, hide E5.out⟩
      case measure => simp [intOf]; omega
end Go.Proofs.Ytfpmjaeehhegcaa
