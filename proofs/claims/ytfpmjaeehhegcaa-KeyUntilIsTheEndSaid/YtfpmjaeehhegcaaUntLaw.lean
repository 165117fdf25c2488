/- Proved: for all licences, users, periods, plays and picks KeyUntilIsTheEnd returns true: at each time from that of a play up to Until one may go on, and at Until one may not; the arguments read as they did. Conditions: none. -/
import Derived.Test.YtfpmjaeehhegcaaOpenL
import Derived.Test.YtfpmjaeehhegcaaInts
namespace Go.Proofs.Ytfpmjaeehhegcaa
open Go.ChangeShapes Go.WideShapes Go.ChangeAt Go.RowKit

theorem perm_first {σ : Type} [DecidableEq σ] {q : WhoT σ} {T : Int} {x : LicT σ} (hl : 0 ≤ x.long) : permB q (-1) T x = permB q T T x := by
  unfold permB
  have e1 : decide (x.long = 0 ∨ (-1 : Int) = -1 ∨ T < -1 + x.long) = true := by simp
  have e2 : decide (x.long = 0 ∨ T = -1 ∨ T < T + x.long) = true := by simp; omega
  rw [e1, e2]
theorem mayR_true {q : WhoT ByteArray} {F T : Int} {L : List LicM} (h : ∃ x ∈ lvs L, permB q F T x = true) : (mayR q F T L).2 = true := by
  obtain ⟨x, hx, hp⟩ := h
  obtain ⟨y, hy, rfl⟩ := List.mem_map.1 hx
  unfold mayR
  cases hf : L.find? fun x => permB q F T x.1 with
  | some z => rfl
  | none => rw [List.find?_eq_none] at hf; exact absurd hp (hf y hy)
theorem mayR_false {q : WhoT ByteArray} {F T : Int} {L : List LicM} (h : ∀ x ∈ lvs L, permB q F T x = false) : (mayR q F T L).2 = false := by
  unfold mayR
  cases hf : L.find? fun x => permB q F T x.1 with
  | none => rfl
  | some z =>
    have h1 := List.find?_some hf
    have h2 := List.mem_of_find?_eq_some hf
    rw [h z.1 (List.mem_map.2 ⟨z, h2, rfl⟩)] at h1
    cases h1
theorem playF_at {L : List LicM} {us : ByteArray} {p T F : Int} {os : ByteArray} {ht t : Int} (h : playF L us p T F os ht = 0) (h1 : T ≤ t) (h2 : t ≤ 1000000000000000) : playF L us p t (frI F T) os ht = 0 := by
  obtain ⟨g0, g1, g2, g3, g4, g5, g6⟩ := playF_ok h
  unfold playF frI
  rw [if_neg (by omega), if_neg (by simp [g1]), if_neg (by split <;> omega), if_neg (by simp [g5]), if_neg (by omega)]
theorem untNow {L : List LicM} {us : ByteArray} {p T F : Int} {os : ByteArray} {ht t : Int} (h : playF L us p T F os ht = 0) (hE : EndI (whoV us p os ht) (lvs L) (frI F T) T t) : (mayR (whoV us p os ht) F T L).2 = decide (T < t) := by
  obtain ⟨g0, g1, g2, g3, g4, g5, g6⟩ := playF_ok h
  have hlong := (licsF_ok g0).2
  have key : ∀ x ∈ lvs L, permB (whoV us p os ht) F T x = permB (whoV us p os ht) (frI F T) T x := by
    intro x hx
    obtain ⟨y, hy, rfl⟩ := List.mem_map.1 hx
    unfold frI
    by_cases hF : F < 0
    · rw [if_pos hF, show F = -1 by omega]
      exact perm_first (hlong y hy).2.1
    · rw [if_neg hF]
  by_cases hlt : T < t
  · rw [decide_eq_true hlt]
    obtain ⟨x, hx, hp⟩ := hE.1.2 T (Int.le_refl _) hlt
    exact mayR_true ⟨x, hx, by rw [key x hx]; exact hp⟩
  · rw [decide_eq_false hlt]
    have := hE.1.1
    obtain rfl : t = T := by omega
    exact mayR_false (fun x hx => by rw [key x hx]; exact hE.2 x hx)
set_option maxRecDepth 100000 in
set_option maxHeartbeats 8000000 in
theorem untLaw_bad {A : Option Addr} {n c : Nat} {L : List LicM} {w : World} (h : At w 8 eL A n c L) (hO : Outs w L) (hg : ∀ x ∈ L, okL x) (us : ByteArray) (hus : us.size ≤ maxLen) (p T F : Int) (os : ByteArray) (hos : os.size ≤ maxLen) (ht pick : Int) (hz : playF L us p T F os ht ≠ 0) :
    Calls Try.prog 6 #[.slice A n c, .string us, .int .i64 p, .agg #[.int .i64 T, .int .i64 F, .string os, .int .i64 ht], .int .i64 pick] w fun e w' => e = .returned (.bool true) ∧ Ext w w' := by
  have HEX := hide (Ext.alloc w (.cells #[.int .i64 T, .int .i64 F, .string os, .int .i64 ht] 44))
  have HU1 := hide (fun (W : World) (hW : Ext w W) => keyUntil_any (h.ext hW) (hO.ext hW) hg us hus p T F os hos ht)
  have HZ := hide hz
  have hb' : (playF L us p T F os ht != 0) = true := by rw [bne_iff_ne]; exact hz
  unfold UntGives at HU1
  generalize playF L us p T F os ht = r at *
  clear h hO hg hus hos hz
  go_enter Try.func6, Try.ntmps6
  go_wp2_with fail
  refine (HU1.out _ HEX.out).mono ?_
  rintro e w1 ⟨t, rfl, hq⟩
  have E1 := hide (Ext.trans HEX.out hq.2.2)
  obtain rfl : t = 0 := hq.1 HZ.out
  clear hq
  go_wp2_with fail
  refine (awake_any _).mono ?_
  rintro e w8 ⟨rfl, e8⟩
  have E8 := hide (Ext.trans E1.out e8)
  clear e8
  go_wp2
  go_ret
  exact ⟨rfl, E8.out⟩
set_option maxRecDepth 100000 in
set_option maxHeartbeats 8000000 in
theorem untLaw_ok {A : Option Addr} {n c : Nat} {L : List LicM} {w : World} (h : At w 8 eL A n c L) (hO : Outs w L) (hg : ∀ x ∈ L, okL x) (us : ByteArray) (hus : us.size ≤ maxLen) (p T F : Int) (os : ByteArray) (hos : os.size ≤ maxLen) (ht pick : Int) (hpk : -9223372036854775808 ≤ pick ∧ pick ≤ 9223372036854775807) (hz : playF L us p T F os ht = 0) :
    Calls Try.prog 6 #[.slice A n c, .string us, .int .i64 p, .agg #[.int .i64 T, .int .i64 F, .string os, .int .i64 ht], .int .i64 pick] w fun e w' => e = .returned (.bool true) ∧ Ext w w' := by
  have HBX := hide (Blk.new w 44 #[.int .i64 T, .int .i64 F, .string os, .int .i64 ht])
  have HEX := hide (Ext.alloc w (.cells #[.int .i64 T, .int .i64 F, .string os, .int .i64 ht] 44))
  have HU1 := hide (fun (W : World) (hW : Ext w W) => keyUntil_any (h.ext hW) (hO.ext hW) hg us hus p T F os hos ht)
  have HMY := hide (fun (t f : Int) (W : World) (hW : Ext w W) => keyMay_any (h.ext hW) (hO.ext hW) hg us hus p t f os hos ht)
  have HZ := hide hz
  have HM0 := HMY.out T F
  have hmv : mayV L us p T F os ht = mayR (whoV us p os ht) F T L := by unfold mayV; rw [if_pos hz]
  rw [hmv, hz] at HM0
  have HM := hide HM0
  unfold UntGives at HU1
  obtain ⟨g0, g1, g2, g3, g4, g5, g6⟩ := playF_ok hz
  rw [hz] at HU1
  have HN := hide (fun t (hE : EndI (whoV us p os ht) (lvs L) (frI F T) T t) => untNow hz hE)
  have HBW := hide (fun (n : Int) (h0 : 0 < n) (h1 : n ≤ 4000000000000000000) (W : World) => below_any pick n h0 h1 hpk W)
  have HAT := hide (fun t (h1 : T ≤ t) (h2 : t ≤ 1000000000000000) (W : World) (hW : Ext w W) => (show Calls Try.prog 17 #[.slice A n c, .string us, .int .i64 p, .agg #[.int .i64 t, .int .i64 (frI F T), .string os, .int .i64 ht]] W fun e w' => e = .returned (.tuple #[.string (mayR (whoV us p os ht) (frI F T) t L).1, .bool (mayR (whoV us p os ht) (frI F T) t L).2, .int .i64 0]) ∧ Ext W w' from by
    have h3 := playF_at hz h1 h2
    have h4 := HMY.out t (frI F T) W hW
    have h5 : mayV L us p t (frI F T) os ht = mayR (whoV us p os ht) (frI F T) t L := by unfold mayV; rw [if_pos h3]
    rw [h3, h5] at h4
    exact h4))
  clear h hO hg hus hos hmv HM0 hz g0 HMY g1 g2 g5 g6
  go_enter Try.func6, Try.ntmps6
  go_wp2_with fail
  refine (HU1.out _ HEX.out).mono ?_
  rintro e w1 ⟨t, rfl, hq⟩
  have E1 := hide (Ext.trans HEX.out hq.2.2)
  have b1 := HBX.out.ext hq.2.2
  have HB1 := hide b1
  have htb := (hq.2.1 rfl).1
  have HE := hide (hq.2.1 rfl).2
  have hnow := HN.out t HE.out
  have x0 := b1.cell 0
  have x1 := b1.cell 1
  have x2 := b1.cell 2
  have x3 := b1.cell 3
  rw [hnow] at HM
  clear hq b1 hnow HU1 HN
  generalize (mayR (whoV us p os ht) F T L).1 = id1 at *
  go_wp2_with fail
  refine (HM.out _ E1.out).mono ?_
  rintro e w2 ⟨rfl, e2⟩
  have E2 := hide (Ext.trans E1.out e2)
  have b2 := HB1.out.ext e2
  have HB2 := hide b2
  clear e2 x0 x1 x2 x3
  have x0 := b2.cell 0
  clear b2
  obtain ⟨ht1, ht2⟩ := htb
  have HFR : Hid (frI F T = if F < 0 then T else F) := hide rfl
  by_cases hlt : T < t
  · have d1 : decide (T < t) = true := by simpa using hlt
    by_cases hF : F < 0
    · have hG : frI F T = T := by rw [HFR.out, if_pos hF]
      go_wp2_with fail
      refine (awake_any _).mono ?_
      rintro e w3 ⟨rfl, e3⟩
      have E3 := hide (Ext.trans E2.out e3)
      have b3 := HB2.out.ext e3
      have HB3 := hide b3
      clear e3 x0
      have x0 := b3.cell 0
      have x1 := b3.cell 1
      have x2 := b3.cell 2
      have x3 := b3.cell 3
      clear b3
      have m0 : 0 ≤ pick % (t - T) := Int.emod_nonneg _ (by omega)
      have m1 : pick % (t - T) < t - T := Int.emod_lt_of_pos _ (by omega)
      have HB := hide (HBW.out (t - T) (by omega) (by omega))
      generalize pick % (t - T) = m at *
      have HA1 := hide (fun (W : World) (hW : Ext w W) => HAT.out (T + m) (by omega) (by omega) W hW)
      have hcov : (mayR (whoV us p os ht) (frI F T) (T + m) L).2 = true := mayR_true (HE.out.1.2 (T + m) (by omega) (by omega))
      rw [hcov, hG] at HA1
      clear hcov
      generalize (mayR (whoV us p os ht) T (T + m) L).1 = id2 at *
      have hw1 : IntKind.i64.wrap (t - T) = t - T := by rw [IntKind.wrap_i64]; omega
      have hw2 : IntKind.i64.wrap (T + m) = T + m := by rw [IntKind.wrap_i64]; omega
      have HG := hide hG
      clear hG
      have HS := hide (fun (W : World) (hW : Ext w3 W) => (⟨hW.cell x0, hW.cell x1, hW.cell x2, hW.cell x3⟩ : _ ∧ _ ∧ _ ∧ _))
      go_wp2_with fail
      go_region_held3 (fun w' => w'.cell? ⟨w.heap.size, 0, none⟩ = some (.int .i64 T) ∧ w'.cell? ⟨w.heap.size, 1, none⟩ = some (.int .i64 F) ∧ w'.cell? ⟨w.heap.size, 2, none⟩ = some (.string os) ∧ w'.cell? ⟨w.heap.size, 3, none⟩ = some (.int .i64 ht)) (exact HS.out _ (by repeat' (first | (with_reducible exact Below.refl _ _) | (with_reducible assumption) | (with_reducible refine below_drewN ?_ _) | (with_reducible refine Below.drew ?_) | (with_reducible refine ext_alloc ?_ _) | (with_reducible refine Below.setCell ?_ ?_ _) | go_size))) (first | ((go_at_call 9; with_reducible refine (HB.out _).mono ?_); rintro e w' ⟨rfl, rfl⟩))
      all_goals
        clear hw1 hw2 x0 x1 x2 x3 HS
        go_wp2_with fail
        refine (HA1.out _ (Ext.trans E3.out (by repeat' (first | (with_reducible exact Below.refl _ _) | (with_reducible assumption) | (with_reducible refine below_drewN ?_ _) | (with_reducible refine Below.drew ?_) | (with_reducible refine ext_alloc ?_ _) | (with_reducible refine Below.setCell ?_ ?_ _) | go_size)))).mono ?_
        rintro e w5 ⟨rfl, e5⟩
        have X5 := hide (show Ext w3 w5 from Ext.trans (by repeat' (first | (with_reducible exact Below.refl _ _) | (with_reducible assumption) | (with_reducible refine below_drewN ?_ _) | (with_reducible refine Below.drew ?_) | (with_reducible refine ext_alloc ?_ _) | (with_reducible refine Below.setCell ?_ ?_ _) | go_size)) e5)
        have E5 := hide (Ext.trans E3.out X5.out)
        have b5 := HB3.out.ext X5.out
        have x0 := b5.cell 0
        have x1 := b5.cell 1
        have x2 := b5.cell 2
        have x3 := b5.cell 3
        have HB5 := hide b5
        clear e5 b5
        have hG := HG.out
        have HA2 := hide (fun (W : World) (hW : Ext w W) => HAT.out t ht1 ht2 W hW)
        have hend : (mayR (whoV us p os ht) (frI F T) t L).2 = false := mayR_false HE.out.2
        rw [hend, hG] at HA2
        clear hend hG
        generalize (mayR (whoV us p os ht) T t L).1 = id3 at *
        go_wp2_with fail
        refine (HA2.out _ (Ext.trans E5.out (by repeat' (first | (with_reducible exact Below.refl _ _) | (with_reducible assumption) | (with_reducible refine below_drewN ?_ _) | (with_reducible refine Below.drew ?_) | (with_reducible refine ext_alloc ?_ _) | (with_reducible refine Below.setCell ?_ ?_ _) | go_size)))).mono ?_
        rintro e w7 ⟨rfl, e7⟩
        have E7 := hide (Ext.trans (Ext.trans E5.out (by repeat' (first | (with_reducible exact Below.refl _ _) | (with_reducible assumption) | (with_reducible refine below_drewN ?_ _) | (with_reducible refine Below.drew ?_) | (with_reducible refine ext_alloc ?_ _) | (with_reducible refine Below.setCell ?_ ?_ _) | go_size))) e7)
        clear e7 x0 x1 x2 x3
        go_wp2
        go_ret
        exact ⟨rfl, E7.out⟩
    · have hG : frI F T = F := by rw [HFR.out, if_neg hF]
      go_wp2_with fail
      refine (awake_any _).mono ?_
      rintro e w3 ⟨rfl, e3⟩
      have E3 := hide (Ext.trans E2.out e3)
      have b3 := HB2.out.ext e3
      have HB3 := hide b3
      clear e3 x0
      have x0 := b3.cell 0
      have x1 := b3.cell 1
      have x2 := b3.cell 2
      have x3 := b3.cell 3
      clear b3
      have m0 : 0 ≤ pick % (t - T) := Int.emod_nonneg _ (by omega)
      have m1 : pick % (t - T) < t - T := Int.emod_lt_of_pos _ (by omega)
      have HB := hide (HBW.out (t - T) (by omega) (by omega))
      generalize pick % (t - T) = m at *
      have HA1 := hide (fun (W : World) (hW : Ext w W) => HAT.out (T + m) (by omega) (by omega) W hW)
      have hcov : (mayR (whoV us p os ht) (frI F T) (T + m) L).2 = true := mayR_true (HE.out.1.2 (T + m) (by omega) (by omega))
      rw [hcov, hG] at HA1
      clear hcov
      generalize (mayR (whoV us p os ht) F (T + m) L).1 = id2 at *
      have hw1 : IntKind.i64.wrap (t - T) = t - T := by rw [IntKind.wrap_i64]; omega
      have hw2 : IntKind.i64.wrap (T + m) = T + m := by rw [IntKind.wrap_i64]; omega
      have HG := hide hG
      clear hG
      have HS := hide (fun (W : World) (hW : Ext w3 W) => (⟨hW.cell x0, hW.cell x1, hW.cell x2, hW.cell x3⟩ : _ ∧ _ ∧ _ ∧ _))
      go_wp2_with fail
      go_region_held3 (fun w' => w'.cell? ⟨w.heap.size, 0, none⟩ = some (.int .i64 T) ∧ w'.cell? ⟨w.heap.size, 1, none⟩ = some (.int .i64 F) ∧ w'.cell? ⟨w.heap.size, 2, none⟩ = some (.string os) ∧ w'.cell? ⟨w.heap.size, 3, none⟩ = some (.int .i64 ht)) (exact HS.out _ (by repeat' (first | (with_reducible exact Below.refl _ _) | (with_reducible assumption) | (with_reducible refine below_drewN ?_ _) | (with_reducible refine Below.drew ?_) | (with_reducible refine ext_alloc ?_ _) | (with_reducible refine Below.setCell ?_ ?_ _) | go_size))) (first | ((go_at_call 9; with_reducible refine (HB.out _).mono ?_); rintro e w' ⟨rfl, rfl⟩))
      all_goals
        clear hw1 hw2 x0 x1 x2 x3 HS
        go_wp2_with fail
        refine (HA1.out _ (Ext.trans E3.out (by repeat' (first | (with_reducible exact Below.refl _ _) | (with_reducible assumption) | (with_reducible refine below_drewN ?_ _) | (with_reducible refine Below.drew ?_) | (with_reducible refine ext_alloc ?_ _) | (with_reducible refine Below.setCell ?_ ?_ _) | go_size)))).mono ?_
        rintro e w5 ⟨rfl, e5⟩
        have X5 := hide (show Ext w3 w5 from Ext.trans (by repeat' (first | (with_reducible exact Below.refl _ _) | (with_reducible assumption) | (with_reducible refine below_drewN ?_ _) | (with_reducible refine Below.drew ?_) | (with_reducible refine ext_alloc ?_ _) | (with_reducible refine Below.setCell ?_ ?_ _) | go_size)) e5)
        have E5 := hide (Ext.trans E3.out X5.out)
        have b5 := HB3.out.ext X5.out
        have x0 := b5.cell 0
        have x1 := b5.cell 1
        have x2 := b5.cell 2
        have x3 := b5.cell 3
        have HB5 := hide b5
        clear e5 b5
        have hG := HG.out
        have HA2 := hide (fun (W : World) (hW : Ext w W) => HAT.out t ht1 ht2 W hW)
        have hend : (mayR (whoV us p os ht) (frI F T) t L).2 = false := mayR_false HE.out.2
        rw [hend, hG] at HA2
        clear hend hG
        generalize (mayR (whoV us p os ht) F t L).1 = id3 at *
        go_wp2_with fail
        refine (HA2.out _ (Ext.trans E5.out (by repeat' (first | (with_reducible exact Below.refl _ _) | (with_reducible assumption) | (with_reducible refine below_drewN ?_ _) | (with_reducible refine Below.drew ?_) | (with_reducible refine ext_alloc ?_ _) | (with_reducible refine Below.setCell ?_ ?_ _) | go_size)))).mono ?_
        rintro e w7 ⟨rfl, e7⟩
        have E7 := hide (Ext.trans (Ext.trans E5.out (by repeat' (first | (with_reducible exact Below.refl _ _) | (with_reducible assumption) | (with_reducible refine below_drewN ?_ _) | (with_reducible refine Below.drew ?_) | (with_reducible refine ext_alloc ?_ _) | (with_reducible refine Below.setCell ?_ ?_ _) | go_size))) e7)
        clear e7 x0 x1 x2 x3
        go_wp2
        go_ret
        exact ⟨rfl, E7.out⟩
  · have d1 : decide (T < t) = false := by simpa using hlt
    by_cases hF : F < 0
    · have hG : frI F T = T := by rw [HFR.out, if_pos hF]
      go_wp2_with fail
      refine (awake_any _).mono ?_
      rintro e w3 ⟨rfl, e3⟩
      have E3 := hide (Ext.trans E2.out e3)
      have b3 := HB2.out.ext e3
      have HB3 := hide b3
      clear e3 x0
      have x0 := b3.cell 0
      have x1 := b3.cell 1
      have x2 := b3.cell 2
      have x3 := b3.cell 3
      clear b3
      have E5 := E3
      have HB5 := HB3
      have HA2 := hide (fun (W : World) (hW : Ext w W) => HAT.out t ht1 ht2 W hW)
      have hend : (mayR (whoV us p os ht) (frI F T) t L).2 = false := mayR_false HE.out.2
      rw [hend, hG] at HA2
      clear hend hG
      generalize (mayR (whoV us p os ht) T t L).1 = id3 at *
      go_wp2_with fail
      refine (HA2.out _ (Ext.trans E5.out (by repeat' (first | (with_reducible exact Below.refl _ _) | (with_reducible assumption) | (with_reducible refine below_drewN ?_ _) | (with_reducible refine Below.drew ?_) | (with_reducible refine ext_alloc ?_ _) | (with_reducible refine Below.setCell ?_ ?_ _) | go_size)))).mono ?_
      rintro e w7 ⟨rfl, e7⟩
      have E7 := hide (Ext.trans (Ext.trans E5.out (by repeat' (first | (with_reducible exact Below.refl _ _) | (with_reducible assumption) | (with_reducible refine below_drewN ?_ _) | (with_reducible refine Below.drew ?_) | (with_reducible refine ext_alloc ?_ _) | (with_reducible refine Below.setCell ?_ ?_ _) | go_size))) e7)
      clear e7 x0 x1 x2 x3
      go_wp2
      go_ret
      exact ⟨rfl, E7.out⟩
    · have hG : frI F T = F := by rw [HFR.out, if_neg hF]
      go_wp2_with fail
      refine (awake_any _).mono ?_
      rintro e w3 ⟨rfl, e3⟩
      have E3 := hide (Ext.trans E2.out e3)
      have b3 := HB2.out.ext e3
      have HB3 := hide b3
      clear e3 x0
      have x0 := b3.cell 0
      have x1 := b3.cell 1
      have x2 := b3.cell 2
      have x3 := b3.cell 3
      clear b3
      have E5 := E3
      have HB5 := HB3
      have HA2 := hide (fun (W : World) (hW : Ext w W) => HAT.out t ht1 ht2 W hW)
      have hend : (mayR (whoV us p os ht) (frI F T) t L).2 = false := mayR_false HE.out.2
      rw [hend, hG] at HA2
      clear hend hG
      generalize (mayR (whoV us p os ht) F t L).1 = id3 at *
      go_wp2_with fail
      refine (HA2.out _ (Ext.trans E5.out (by repeat' (first | (with_reducible exact Below.refl _ _) | (with_reducible assumption) | (with_reducible refine below_drewN ?_ _) | (with_reducible refine Below.drew ?_) | (with_reducible refine ext_alloc ?_ _) | (with_reducible refine Below.setCell ?_ ?_ _) | go_size)))).mono ?_
      rintro e w7 ⟨rfl, e7⟩
      have E7 := hide (Ext.trans (Ext.trans E5.out (by repeat' (first | (with_reducible exact Below.refl _ _) | (with_reducible assumption) | (with_reducible refine below_drewN ?_ _) | (with_reducible refine Below.drew ?_) | (with_reducible refine ext_alloc ?_ _) | (with_reducible refine Below.setCell ?_ ?_ _) | go_size))) e7)
      clear e7 x0 x1 x2 x3
      go_wp2
      go_ret
      exact ⟨rfl, E7.out⟩
theorem untLaw_any {A : Option Addr} {n c : Nat} {L : List LicM} {w : World} (h : At w 8 eL A n c L) (hO : Outs w L) (hg : ∀ x ∈ L, okL x) (us : ByteArray) (hus : us.size ≤ maxLen) (p T F : Int) (os : ByteArray) (hos : os.size ≤ maxLen) (ht : Int) {pick : Int} (hpk : -9223372036854775808 ≤ pick ∧ pick ≤ 9223372036854775807) :
    Calls Try.prog 6 #[.slice A n c, .string us, .int .i64 p, .agg #[.int .i64 T, .int .i64 F, .string os, .int .i64 ht], .int .i64 pick] w fun e w' => e = .returned (.bool true) ∧ Ext w w' := by
  by_cases hz : playF L us p T F os ht = 0
  · exact untLaw_ok h hO hg us hus p T F os hos ht pick hpk hz
  · exact untLaw_bad h hO hg us hus p T F os hos ht pick hz

set_option maxRecDepth 100000 in
theorem keyUntilIsTheEnd_lifted (os : Os) (started : os.Started) (H : Type) (enc : TypeId × Value → H) :
    ReturnsInHanded {} Try.checked os 6 .any (Rows.keyUntilIsTheEndSpec.pre6 enc Try.prog Try.f6 Rows.keyUntilIsTheEndRow.domain false) (Rows.keyUntilIsTheEndSpec.post enc Try.prog Try.f6 false true false false) := by
  refine returnsInHanded_of_change_sized (C := Try.checked) Try.own started (by kernel_rfl) Try.func6
    (ChangeSpec.witness6 (enc := enc) (C := Try.checked) false ⟨#[], #[.slice none 0 0, .string ByteArray.empty, .int .i64 0, .agg #[.int .i64 0, .int .i64 0, .string ByteArray.empty, .int .i64 0], .int .i64 0], []⟩ 8 (by kernel_rfl) (by kernel_rfl) (by kernel_rfl) (by kernel_rfl)) ?_
  intro W base args ds gs before hval0 hW _ _ _
  have hval : ∀ (j : Nat) t v, Try.f6.params[j]? = some t → args[j]? = some v → Value.okWide Try.prog W .any base t v := hval0
  have hW' := hW
  obtain ⟨p, q, hA0, hV, rfl, _, _⟩ := hW
  have hA : DataW.TrodAll enc Try.prog W 0 (fun _ => true) true Try.f6.params.toList args.toList ds p := hA0
  rw [Try.params6] at hA hval
  obtain ⟨v0, v1, v2, v3, v4, d0, d1, d2, d3, d4, p0, p1, p2, p3, p4, rfl, rfl, rfl, h0, h1, h2, h3, h4⟩ := trodAll5 hA
  obtain ⟨A0, n0, c0, l0, rfl, hAt0, hOu0, hG0⟩ := open_lics (hval 0 42 v0 rfl rfl) h0
  obtain ⟨x1, rfl, _, _, hS1⟩ := Go.ChangeMaps.open_string Try.underlying9 (hval 1 9 v1 rfl rfl) h1
  obtain ⟨x2, rfl, rfl, rfl, w2⟩ := open_int Try.underlying3 (hval 2 3 v2 rfl rfl) h2
  obtain ⟨T3, F3, o3, g3, rfl, hos3⟩ := open_play (hval 3 44 v3 rfl rfl) h3
  obtain ⟨x4, rfl, rfl, rfl, w4⟩ := open_int Try.underlying3 (hval 4 3 v4 rfl rfl) h4
  refine (untLaw_any hAt0 hOu0 hG0 x1 hS1 x2 T3 F3 o3 hos3 g3 (wf_i64 w4)).mono fun e W' ⟨he, hE⟩ => ?_
  subst he
  exact ⟨_, rfl, law_post Try.laidOut Try.underlying4 hW' rfl rfl rfl (by kernel_rfl) hE⟩
theorem keyUntilIsTheEnd_closed : joinedFacts Try.prog 6 Try.f6 Rows.keyUntilIsTheEndSpec Rows.keyUntilIsTheEndRow = true :=
  joined_of Try.laidOut Try.mapsRowed Try.plainKeys Try.stopsHeard Try.stopsNone Try.knobsNone Try.mayEnter Try.makeCut Try.liftsFinal rfl rfl rfl (by as_aux_lemma => kernel_rfl)
    (by as_aux_lemma => kernel_rfl) (by as_aux_lemma => kernel_rfl) (by as_aux_lemma => kernel_rfl) (by as_aux_lemma => kernel_rfl) (by as_aux_lemma => kernel_rfl) (by as_aux_lemma => kernel_rfl) (by as_aux_lemma => kernel_rfl) (by as_aux_lemma => kernel_rfl) (by as_aux_lemma => kernel_rfl) (by as_aux_lemma => kernel_rfl)
theorem keyUntilIsTheEnd_holds : Rows.KeyUntilIsTheEndSaid :=
  OpenClaim.holds_of_wide 6 Try.f6 rfl rfl rfl rfl rfl rfl rfl ⟨rfl, rfl, rfl, rfl, rfl⟩ rfl rfl rfl rfl rfl (by as_aux_lemma => kernel_rfl) Try.func6 keyUntilIsTheEnd_closed
    (of_decide_eq_true (by kernel_rfl)) (by unfold Func.isWrapper; first | (rw [if_pos (by decide +kernel)]; kernel_rfl) | (rw [if_neg (by decide +kernel)]; exact ⟨rfl, rfl⟩))
    (fun os started H enc _ => keyUntilIsTheEnd_lifted os started H enc)
#print axioms keyUntilIsTheEnd_holds
end Go.Proofs.Ytfpmjaeehhegcaa
