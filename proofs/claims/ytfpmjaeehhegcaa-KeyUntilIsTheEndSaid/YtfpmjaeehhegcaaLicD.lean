/- Walks: playFault of the program, askPlay of the reference; permits (both). Conditions: as stated. -/
import Derived.Test.YtfpmjaeehhegcaaLicC
import Derived.Test.YtfpmjaeehhegcaaIdx
namespace Go.Proofs.Ytfpmjaeehhegcaa
open Go.RowKit

def playF (L : List LicM) (us : ByteArray) (p T F : Int) (os : ByteArray) (ht : Int) : Int :=
  if licsF L ≠ 0 then licsF L else if nameB us = false then 5 else if (p < 0 ∨ 1000000000 < p) ∨ (T < 0 ∨ 1000000000000000 < T) ∨ (F < -1 ∨ T < F) then 1
  else if nameB os = false then 5 else if ht < 1 ∨ 10000 < ht then 1 else 0
theorem playF_ok {L : List LicM} {us : ByteArray} {p T F : Int} {os : ByteArray} {ht : Int} (h : playF L us p T F os ht = 0) : licsF L = 0 ∧ nameB us = true ∧ (0 ≤ p ∧ p ≤ 1000000000) ∧ (0 ≤ T ∧ T ≤ 1000000000000000) ∧ (-1 ≤ F ∧ F ≤ T) ∧ nameB os = true ∧ (1 ≤ ht ∧ ht ≤ 10000) := by
  unfold playF at h
  by_cases h0 : licsF L ≠ 0
  · rw [if_pos h0] at h; exact absurd h h0
  rw [if_neg h0] at h
  by_cases h1 : nameB us = false
  · rw [if_pos h1] at h; omega
  rw [if_neg h1] at h
  by_cases h2 : (p < 0 ∨ 1000000000 < p) ∨ (T < 0 ∨ 1000000000000000 < T) ∨ (F < -1 ∨ T < F)
  · rw [if_pos h2] at h; omega
  rw [if_neg h2] at h
  by_cases h3 : nameB os = false
  · rw [if_pos h3] at h; omega
  rw [if_neg h3] at h
  by_cases h4 : ht < 1 ∨ 10000 < ht
  · rw [if_pos h4] at h; omega
  exact ⟨by omega, by simpa using h1, by omega, by omega, by omega, by simpa using h3, by omega⟩
section
variable {σ : Type} [DecidableEq σ] {q : WhoT σ} {first time : Int} {x : LicT σ}
theorem permB_no1 (h : ¬ (x.user = q.user ∧ x.pf ≤ q.period ∧ q.period < x.pt ∧ x.frm ≤ time ∧ time < x.upto)) : permB q first time x = false := by unfold permB; rw [decide_eq_false h]; rfl
theorem permB_no2 (h : outB q x = false) : permB q first time x = false := by unfold permB; rw [h]; simp
theorem permB_no3 (h : ¬ (x.long = 0 ∨ first = -1 ∨ time < first + x.long)) : permB q first time x = false := by unfold permB; rw [decide_eq_false h]; simp
theorem permB_yes (h1 : x.user = q.user ∧ x.pf ≤ q.period ∧ q.period < x.pt ∧ x.frm ≤ time ∧ time < x.upto) (h2 : outB q x = true) (h3 : x.long = 0 ∨ first = -1 ∨ time < first + x.long) : permB q first time x = true := by
  unfold permB; rw [decide_eq_true h1, decide_eq_true h3, h2]; rfl
end
/-- An output that serves. -/
def outP (os : ByteArray) (ht : Int) (x : OutV) : Bool := decide (x.1 = os ∧ ht ≤ x.2)

set_option maxRecDepth 100000 in
set_option maxHeartbeats 8000000 in
theorem keyPlayF_any {A : Option Addr} {n c : Nat} {L : List LicM} {w : World} (h : At w 8 eL A n c L) (hO : Outs w L) (hg : ∀ x ∈ L, okL x) (us : ByteArray) (hus : us.size ≤ maxLen) (p T F : Int) (os : ByteArray) (hos : os.size ≤ maxLen) (ht : Int) :
    Calls Try.prog 35 #[.slice A n c, .string us, .int .i64 p, .agg #[.int .i64 T, .int .i64 F, .string os, .int .i64 ht]] w fun e w' => e = .returned (.int .i64 (playF L us p T F os ht)) ∧ Ext w w' := by
  have HC := hide (fun (W : World) (hW : Ext w W) => keyLics_any (h.ext hW) (hO.ext hW) hg)
  have HNU := hide (fun (W : World) => isName_any us hus W)
  have HNO := hide (fun (W : World) => isName_any os hos W)
  have HBX := hide (Blk.new w 44 #[.int .i64 T, .int .i64 F, .string os, .int .i64 ht])
  clear h hO hg hus hos
  by_cases c0 : licsF L ≠ 0
  · have hF : playF L us p T F os ht = licsF L := by unfold playF; rw [if_pos c0]
    rw [hF]
    have c0' : (licsF L != 0) = true := by rw [bne_iff_ne]; exact c0
    generalize licsF L = r at *
    clear hF c0
    go_enter Try.func35, Try.ntmps35
    go_wp2_with fail
    refine (HC.out _ (by repeat' (first | (with_reducible exact Below.refl _ _) | (with_reducible assumption) | (with_reducible refine below_drewN ?_ _) | (with_reducible refine Below.drew ?_) | (with_reducible refine ext_alloc ?_ _) | (with_reducible refine Below.setCell ?_ ?_ _) | go_size))).mono ?_
    rintro e w1 ⟨rfl, e1⟩
    have E1 := hide (show Ext w w1 from Ext.trans (by repeat' (first | (with_reducible exact Below.refl _ _) | (with_reducible assumption) | (with_reducible refine below_drewN ?_ _) | (with_reducible refine Below.drew ?_) | (with_reducible refine ext_alloc ?_ _) | (with_reducible refine Below.setCell ?_ ?_ _) | go_size)) e1)
    have b1 := HBX.out.ext e1
    have x0 := b1.cell 0
    have x1 := b1.cell 1
    have x2 := b1.cell 2
    have x3 := b1.cell 3
    clear e1 b1
    go_wp2_with (first | ((go_at_call_of 27 (Value.string us); with_reducible refine (HNU.out _).mono ?_); rintro e w' ⟨rfl, rfl⟩) | ((go_at_call_of 27 (Value.string os); with_reducible refine (HNO.out _).mono ?_); rintro e w' ⟨rfl, rfl⟩) | ((go_at_call 28; with_reducible refine (out_no ?_ _).mono ?_); (focus omega); rintro e w' ⟨rfl, rfl⟩) | ((go_at_call 28; with_reducible refine (out_yes ?_ _).mono ?_); (focus omega); rintro e w' ⟨rfl, rfl⟩))
    go_ret
    exact ⟨rfl, E1.out⟩
  have hz : licsF L = 0 := by omega
  rw [hz] at HC
  cases c1 : nameB us with
  | false =>
    have hF : playF L us p T F os ht = 5 := by unfold playF; rw [if_neg c0, if_pos c1]
    rw [hF]
    rw [c1] at HNU
    clear hF c0 hz c1
    go_enter Try.func35, Try.ntmps35
    go_wp2_with fail
    refine (HC.out _ (by repeat' (first | (with_reducible exact Below.refl _ _) | (with_reducible assumption) | (with_reducible refine below_drewN ?_ _) | (with_reducible refine Below.drew ?_) | (with_reducible refine ext_alloc ?_ _) | (with_reducible refine Below.setCell ?_ ?_ _) | go_size))).mono ?_
    rintro e w1 ⟨rfl, e1⟩
    have E1 := hide (show Ext w w1 from Ext.trans (by repeat' (first | (with_reducible exact Below.refl _ _) | (with_reducible assumption) | (with_reducible refine below_drewN ?_ _) | (with_reducible refine Below.drew ?_) | (with_reducible refine ext_alloc ?_ _) | (with_reducible refine Below.setCell ?_ ?_ _) | go_size)) e1)
    have b1 := HBX.out.ext e1
    have x0 := b1.cell 0
    have x1 := b1.cell 1
    have x2 := b1.cell 2
    have x3 := b1.cell 3
    clear e1 b1
    go_wp2_with (first | ((go_at_call_of 27 (Value.string us); with_reducible refine (HNU.out _).mono ?_); rintro e w' ⟨rfl, rfl⟩) | ((go_at_call_of 27 (Value.string os); with_reducible refine (HNO.out _).mono ?_); rintro e w' ⟨rfl, rfl⟩) | ((go_at_call 28; with_reducible refine (out_no ?_ _).mono ?_); (focus omega); rintro e w' ⟨rfl, rfl⟩) | ((go_at_call 28; with_reducible refine (out_yes ?_ _).mono ?_); (focus omega); rintro e w' ⟨rfl, rfl⟩))
    go_ret
    exact ⟨rfl, E1.out⟩
  | true =>
  rw [c1] at HNU
  by_cases c2 : (p < 0 ∨ 1000000000 < p) ∨ (T < 0 ∨ 1000000000000000 < T) ∨ (F < -1 ∨ T < F)
  · have hF : playF L us p T F os ht = 1 := by unfold playF; rw [if_neg c0, if_neg (by simp [c1]), if_pos c2]
    rw [hF]
    clear hF c0 hz c1
    by_cases d1 : p < 0 ∨ 1000000000 < p
    · clear c2
      go_enter Try.func35, Try.ntmps35
      go_wp2_with fail
      refine (HC.out _ (by repeat' (first | (with_reducible exact Below.refl _ _) | (with_reducible assumption) | (with_reducible refine below_drewN ?_ _) | (with_reducible refine Below.drew ?_) | (with_reducible refine ext_alloc ?_ _) | (with_reducible refine Below.setCell ?_ ?_ _) | go_size))).mono ?_
      rintro e w1 ⟨rfl, e1⟩
      have E1 := hide (show Ext w w1 from Ext.trans (by repeat' (first | (with_reducible exact Below.refl _ _) | (with_reducible assumption) | (with_reducible refine below_drewN ?_ _) | (with_reducible refine Below.drew ?_) | (with_reducible refine ext_alloc ?_ _) | (with_reducible refine Below.setCell ?_ ?_ _) | go_size)) e1)
      have b1 := HBX.out.ext e1
      have x0 := b1.cell 0
      have x1 := b1.cell 1
      have x2 := b1.cell 2
      have x3 := b1.cell 3
      clear e1 b1
      go_wp2_with (first | ((go_at_call_of 27 (Value.string us); with_reducible refine (HNU.out _).mono ?_); rintro e w' ⟨rfl, rfl⟩) | ((go_at_call_of 27 (Value.string os); with_reducible refine (HNO.out _).mono ?_); rintro e w' ⟨rfl, rfl⟩) | ((go_at_call 28; with_reducible refine (out_no ?_ _).mono ?_); (focus omega); rintro e w' ⟨rfl, rfl⟩) | ((go_at_call 28; with_reducible refine (out_yes ?_ _).mono ?_); (focus omega); rintro e w' ⟨rfl, rfl⟩))
      go_ret
      exact ⟨rfl, E1.out⟩
    have d1' : 0 ≤ p ∧ p ≤ 1000000000 := by omega
    by_cases d2 : T < 0 ∨ 1000000000000000 < T
    · clear c2 d1
      go_enter Try.func35, Try.ntmps35
      go_wp2_with fail
      refine (HC.out _ (by repeat' (first | (with_reducible exact Below.refl _ _) | (with_reducible assumption) | (with_reducible refine below_drewN ?_ _) | (with_reducible refine Below.drew ?_) | (with_reducible refine ext_alloc ?_ _) | (with_reducible refine Below.setCell ?_ ?_ _) | go_size))).mono ?_
      rintro e w1 ⟨rfl, e1⟩
      have E1 := hide (show Ext w w1 from Ext.trans (by repeat' (first | (with_reducible exact Below.refl _ _) | (with_reducible assumption) | (with_reducible refine below_drewN ?_ _) | (with_reducible refine Below.drew ?_) | (with_reducible refine ext_alloc ?_ _) | (with_reducible refine Below.setCell ?_ ?_ _) | go_size)) e1)
      have b1 := HBX.out.ext e1
      have x0 := b1.cell 0
      have x1 := b1.cell 1
      have x2 := b1.cell 2
      have x3 := b1.cell 3
      clear e1 b1
      go_wp2_with (first | ((go_at_call_of 27 (Value.string us); with_reducible refine (HNU.out _).mono ?_); rintro e w' ⟨rfl, rfl⟩) | ((go_at_call_of 27 (Value.string os); with_reducible refine (HNO.out _).mono ?_); rintro e w' ⟨rfl, rfl⟩) | ((go_at_call 28; with_reducible refine (out_no ?_ _).mono ?_); (focus omega); rintro e w' ⟨rfl, rfl⟩) | ((go_at_call 28; with_reducible refine (out_yes ?_ _).mono ?_); (focus omega); rintro e w' ⟨rfl, rfl⟩))
      go_ret
      exact ⟨rfl, E1.out⟩
    have d2' : 0 ≤ T ∧ T ≤ 1000000000000000 := by omega
    have d3 : F < -1 ∨ T < F := by omega
    clear c2 d1 d2
    go_enter Try.func35, Try.ntmps35
    go_wp2_with fail
    refine (HC.out _ (by repeat' (first | (with_reducible exact Below.refl _ _) | (with_reducible assumption) | (with_reducible refine below_drewN ?_ _) | (with_reducible refine Below.drew ?_) | (with_reducible refine ext_alloc ?_ _) | (with_reducible refine Below.setCell ?_ ?_ _) | go_size))).mono ?_
    rintro e w1 ⟨rfl, e1⟩
    have E1 := hide (show Ext w w1 from Ext.trans (by repeat' (first | (with_reducible exact Below.refl _ _) | (with_reducible assumption) | (with_reducible refine below_drewN ?_ _) | (with_reducible refine Below.drew ?_) | (with_reducible refine ext_alloc ?_ _) | (with_reducible refine Below.setCell ?_ ?_ _) | go_size)) e1)
    have b1 := HBX.out.ext e1
    have x0 := b1.cell 0
    have x1 := b1.cell 1
    have x2 := b1.cell 2
    have x3 := b1.cell 3
    clear e1 b1
    go_wp2_with (first | ((go_at_call_of 27 (Value.string us); with_reducible refine (HNU.out _).mono ?_); rintro e w' ⟨rfl, rfl⟩) | ((go_at_call_of 27 (Value.string os); with_reducible refine (HNO.out _).mono ?_); rintro e w' ⟨rfl, rfl⟩) | ((go_at_call 28; with_reducible refine (out_no ?_ _).mono ?_); (focus omega); rintro e w' ⟨rfl, rfl⟩) | ((go_at_call 28; with_reducible refine (out_yes ?_ _).mono ?_); (focus omega); rintro e w' ⟨rfl, rfl⟩))
    go_ret
    exact ⟨rfl, E1.out⟩
  have d1' : 0 ≤ p ∧ p ≤ 1000000000 := by omega
  have d2' : 0 ≤ T ∧ T ≤ 1000000000000000 := by omega
  have d3' : -1 ≤ F ∧ F ≤ T := by omega
  cases c3 : nameB os with
  | false =>
    have hF : playF L us p T F os ht = 5 := by unfold playF; rw [if_neg c0, if_neg (by simp [c1]), if_neg c2, if_pos c3]
    rw [hF]
    rw [c3] at HNO
    clear hF c0 hz c1 c2 c3
    go_enter Try.func35, Try.ntmps35
    go_wp2_with fail
    refine (HC.out _ (by repeat' (first | (with_reducible exact Below.refl _ _) | (with_reducible assumption) | (with_reducible refine below_drewN ?_ _) | (with_reducible refine Below.drew ?_) | (with_reducible refine ext_alloc ?_ _) | (with_reducible refine Below.setCell ?_ ?_ _) | go_size))).mono ?_
    rintro e w1 ⟨rfl, e1⟩
    have E1 := hide (show Ext w w1 from Ext.trans (by repeat' (first | (with_reducible exact Below.refl _ _) | (with_reducible assumption) | (with_reducible refine below_drewN ?_ _) | (with_reducible refine Below.drew ?_) | (with_reducible refine ext_alloc ?_ _) | (with_reducible refine Below.setCell ?_ ?_ _) | go_size)) e1)
    have b1 := HBX.out.ext e1
    have x0 := b1.cell 0
    have x1 := b1.cell 1
    have x2 := b1.cell 2
    have x3 := b1.cell 3
    clear e1 b1
    go_wp2_with (first | ((go_at_call_of 27 (Value.string us); with_reducible refine (HNU.out _).mono ?_); rintro e w' ⟨rfl, rfl⟩) | ((go_at_call_of 27 (Value.string os); with_reducible refine (HNO.out _).mono ?_); rintro e w' ⟨rfl, rfl⟩) | ((go_at_call 28; with_reducible refine (out_no ?_ _).mono ?_); (focus omega); rintro e w' ⟨rfl, rfl⟩) | ((go_at_call 28; with_reducible refine (out_yes ?_ _).mono ?_); (focus omega); rintro e w' ⟨rfl, rfl⟩))
    go_ret
    exact ⟨rfl, E1.out⟩
  | true =>
  rw [c3] at HNO
  by_cases c4 : ht < 1 ∨ 10000 < ht
  · have hF : playF L us p T F os ht = 1 := by unfold playF; rw [if_neg c0, if_neg (by simp [c1]), if_neg c2, if_neg (by simp [c3]), if_pos c4]
    rw [hF]
    clear hF c0 hz c1 c2 c3
    go_enter Try.func35, Try.ntmps35
    go_wp2_with fail
    refine (HC.out _ (by repeat' (first | (with_reducible exact Below.refl _ _) | (with_reducible assumption) | (with_reducible refine below_drewN ?_ _) | (with_reducible refine Below.drew ?_) | (with_reducible refine ext_alloc ?_ _) | (with_reducible refine Below.setCell ?_ ?_ _) | go_size))).mono ?_
    rintro e w1 ⟨rfl, e1⟩
    have E1 := hide (show Ext w w1 from Ext.trans (by repeat' (first | (with_reducible exact Below.refl _ _) | (with_reducible assumption) | (with_reducible refine below_drewN ?_ _) | (with_reducible refine Below.drew ?_) | (with_reducible refine ext_alloc ?_ _) | (with_reducible refine Below.setCell ?_ ?_ _) | go_size)) e1)
    have b1 := HBX.out.ext e1
    have x0 := b1.cell 0
    have x1 := b1.cell 1
    have x2 := b1.cell 2
    have x3 := b1.cell 3
    clear e1 b1
    go_wp2_with (first | ((go_at_call_of 27 (Value.string us); with_reducible refine (HNU.out _).mono ?_); rintro e w' ⟨rfl, rfl⟩) | ((go_at_call_of 27 (Value.string os); with_reducible refine (HNO.out _).mono ?_); rintro e w' ⟨rfl, rfl⟩) | ((go_at_call 28; with_reducible refine (out_no ?_ _).mono ?_); (focus omega); rintro e w' ⟨rfl, rfl⟩) | ((go_at_call 28; with_reducible refine (out_yes ?_ _).mono ?_); (focus omega); rintro e w' ⟨rfl, rfl⟩))
    go_ret
    exact ⟨rfl, E1.out⟩
  have c4' : 1 ≤ ht ∧ ht ≤ 10000 := by omega
  have hF : playF L us p T F os ht = 0 := by unfold playF; rw [if_neg c0, if_neg (by simp [c1]), if_neg c2, if_neg (by simp [c3]), if_neg c4]
  rw [hF]
  clear hF c0 hz c1 c2 c3 c4
  go_enter Try.func35, Try.ntmps35
  go_wp2_with fail
  refine (HC.out _ (by repeat' (first | (with_reducible exact Below.refl _ _) | (with_reducible assumption) | (with_reducible refine below_drewN ?_ _) | (with_reducible refine Below.drew ?_) | (with_reducible refine ext_alloc ?_ _) | (with_reducible refine Below.setCell ?_ ?_ _) | go_size))).mono ?_
  rintro e w1 ⟨rfl, e1⟩
  have E1 := hide (show Ext w w1 from Ext.trans (by repeat' (first | (with_reducible exact Below.refl _ _) | (with_reducible assumption) | (with_reducible refine below_drewN ?_ _) | (with_reducible refine Below.drew ?_) | (with_reducible refine ext_alloc ?_ _) | (with_reducible refine Below.setCell ?_ ?_ _) | go_size)) e1)
  have b1 := HBX.out.ext e1
  have x0 := b1.cell 0
  have x1 := b1.cell 1
  have x2 := b1.cell 2
  have x3 := b1.cell 3
  clear e1 b1
  go_wp2_with (first | ((go_at_call_of 27 (Value.string us); with_reducible refine (HNU.out _).mono ?_); rintro e w' ⟨rfl, rfl⟩) | ((go_at_call_of 27 (Value.string os); with_reducible refine (HNO.out _).mono ?_); rintro e w' ⟨rfl, rfl⟩) | ((go_at_call 28; with_reducible refine (out_no ?_ _).mono ?_); (focus omega); rintro e w' ⟨rfl, rfl⟩) | ((go_at_call 28; with_reducible refine (out_yes ?_ _).mono ?_); (focus omega); rintro e w' ⟨rfl, rfl⟩))
  go_ret
  exact ⟨rfl, E1.out⟩
set_option maxRecDepth 100000 in
set_option maxHeartbeats 8000000 in
theorem refPlayF_any {A : Option Addr} {n c : Nat} {L : List LicM} {w : World} (h : At w 8 eL A n c L) (hO : Outs w L) (hg : ∀ x ∈ L, okL x) (us : ByteArray) (hus : us.size ≤ maxLen) (p T F : Int) (os : ByteArray) (hos : os.size ≤ maxLen) (ht : Int) :
    Calls Try.prog 37 #[.slice A n c, .string us, .int .i64 p, .agg #[.int .i64 T, .int .i64 F, .string os, .int .i64 ht]] w fun e w' => e = .returned (.int .i64 (playF L us p T F os ht)) ∧ Ext w w' := by
  have HC := hide (fun (W : World) (hW : Ext w W) => refLics_any (h.ext hW) (hO.ext hW) hg)
  have HNU := hide (fun (W : World) => refName_any us hus W)
  have HNO := hide (fun (W : World) => refName_any os hos W)
  have HBX := hide (Blk.new w 44 #[.int .i64 T, .int .i64 F, .string os, .int .i64 ht])
  clear h hO hg hus hos
  by_cases c0 : licsF L ≠ 0
  · have hF : playF L us p T F os ht = licsF L := by unfold playF; rw [if_pos c0]
    rw [hF]
    have c0' : (licsF L != 0) = true := by rw [bne_iff_ne]; exact c0
    generalize licsF L = r at *
    clear hF c0
    go_enter Try.func37, Try.ntmps37
    go_wp2_with fail
    refine (HC.out _ (by repeat' (first | (with_reducible exact Below.refl _ _) | (with_reducible assumption) | (with_reducible refine below_drewN ?_ _) | (with_reducible refine Below.drew ?_) | (with_reducible refine ext_alloc ?_ _) | (with_reducible refine Below.setCell ?_ ?_ _) | go_size))).mono ?_
    rintro e w1 ⟨rfl, e1⟩
    have E1 := hide (show Ext w w1 from Ext.trans (by repeat' (first | (with_reducible exact Below.refl _ _) | (with_reducible assumption) | (with_reducible refine below_drewN ?_ _) | (with_reducible refine Below.drew ?_) | (with_reducible refine ext_alloc ?_ _) | (with_reducible refine Below.setCell ?_ ?_ _) | go_size)) e1)
    have b1 := HBX.out.ext e1
    have x0 := b1.cell 0
    have x1 := b1.cell 1
    have x2 := b1.cell 2
    have x3 := b1.cell 3
    clear e1 b1
    go_wp2_with (first | ((go_at_call_of 32 (Value.string us); with_reducible refine (HNU.out _).mono ?_); rintro e w' ⟨rfl, rfl⟩) | ((go_at_call_of 32 (Value.string os); with_reducible refine (HNO.out _).mono ?_); rintro e w' ⟨rfl, rfl⟩) | ((go_at_call 33; with_reducible refine (within_yes ?_ _).mono ?_); (focus omega); rintro e w' ⟨rfl, rfl⟩) | ((go_at_call 33; with_reducible refine (within_no ?_ _).mono ?_); (focus omega); rintro e w' ⟨rfl, rfl⟩))
    go_ret
    exact ⟨rfl, E1.out⟩
  have hz : licsF L = 0 := by omega
  rw [hz] at HC
  cases c1 : nameB us with
  | false =>
    have hF : playF L us p T F os ht = 5 := by unfold playF; rw [if_neg c0, if_pos c1]
    rw [hF]
    rw [c1] at HNU
    clear hF c0 hz c1
    go_enter Try.func37, Try.ntmps37
    go_wp2_with fail
    refine (HC.out _ (by repeat' (first | (with_reducible exact Below.refl _ _) | (with_reducible assumption) | (with_reducible refine below_drewN ?_ _) | (with_reducible refine Below.drew ?_) | (with_reducible refine ext_alloc ?_ _) | (with_reducible refine Below.setCell ?_ ?_ _) | go_size))).mono ?_
    rintro e w1 ⟨rfl, e1⟩
    have E1 := hide (show Ext w w1 from Ext.trans (by repeat' (first | (with_reducible exact Below.refl _ _) | (with_reducible assumption) | (with_reducible refine below_drewN ?_ _) | (with_reducible refine Below.drew ?_) | (with_reducible refine ext_alloc ?_ _) | (with_reducible refine Below.setCell ?_ ?_ _) | go_size)) e1)
    have b1 := HBX.out.ext e1
    have x0 := b1.cell 0
    have x1 := b1.cell 1
    have x2 := b1.cell 2
    have x3 := b1.cell 3
    clear e1 b1
    go_wp2_with (first | ((go_at_call_of 32 (Value.string us); with_reducible refine (HNU.out _).mono ?_); rintro e w' ⟨rfl, rfl⟩) | ((go_at_call_of 32 (Value.string os); with_reducible refine (HNO.out _).mono ?_); rintro e w' ⟨rfl, rfl⟩) | ((go_at_call 33; with_reducible refine (within_yes ?_ _).mono ?_); (focus omega); rintro e w' ⟨rfl, rfl⟩) | ((go_at_call 33; with_reducible refine (within_no ?_ _).mono ?_); (focus omega); rintro e w' ⟨rfl, rfl⟩))
    go_ret
    exact ⟨rfl, E1.out⟩
  | true =>
  rw [c1] at HNU
  by_cases c2 : (p < 0 ∨ 1000000000 < p) ∨ (T < 0 ∨ 1000000000000000 < T) ∨ (F < -1 ∨ T < F)
  · have hF : playF L us p T F os ht = 1 := by unfold playF; rw [if_neg c0, if_neg (by simp [c1]), if_pos c2]
    rw [hF]
    clear hF c0 hz c1
    by_cases d1 : p < 0 ∨ 1000000000 < p
    · clear c2
      go_enter Try.func37, Try.ntmps37
      go_wp2_with fail
      refine (HC.out _ (by repeat' (first | (with_reducible exact Below.refl _ _) | (with_reducible assumption) | (with_reducible refine below_drewN ?_ _) | (with_reducible refine Below.drew ?_) | (with_reducible refine ext_alloc ?_ _) | (with_reducible refine Below.setCell ?_ ?_ _) | go_size))).mono ?_
      rintro e w1 ⟨rfl, e1⟩
      have E1 := hide (show Ext w w1 from Ext.trans (by repeat' (first | (with_reducible exact Below.refl _ _) | (with_reducible assumption) | (with_reducible refine below_drewN ?_ _) | (with_reducible refine Below.drew ?_) | (with_reducible refine ext_alloc ?_ _) | (with_reducible refine Below.setCell ?_ ?_ _) | go_size)) e1)
      have b1 := HBX.out.ext e1
      have x0 := b1.cell 0
      have x1 := b1.cell 1
      have x2 := b1.cell 2
      have x3 := b1.cell 3
      clear e1 b1
      go_wp2_with (first | ((go_at_call_of 32 (Value.string us); with_reducible refine (HNU.out _).mono ?_); rintro e w' ⟨rfl, rfl⟩) | ((go_at_call_of 32 (Value.string os); with_reducible refine (HNO.out _).mono ?_); rintro e w' ⟨rfl, rfl⟩) | ((go_at_call 33; with_reducible refine (within_yes ?_ _).mono ?_); (focus omega); rintro e w' ⟨rfl, rfl⟩) | ((go_at_call 33; with_reducible refine (within_no ?_ _).mono ?_); (focus omega); rintro e w' ⟨rfl, rfl⟩))
      go_ret
      exact ⟨rfl, E1.out⟩
    have d1' : 0 ≤ p ∧ p ≤ 1000000000 := by omega
    by_cases d2 : T < 0 ∨ 1000000000000000 < T
    · clear c2 d1
      go_enter Try.func37, Try.ntmps37
      go_wp2_with fail
      refine (HC.out _ (by repeat' (first | (with_reducible exact Below.refl _ _) | (with_reducible assumption) | (with_reducible refine below_drewN ?_ _) | (with_reducible refine Below.drew ?_) | (with_reducible refine ext_alloc ?_ _) | (with_reducible refine Below.setCell ?_ ?_ _) | go_size))).mono ?_
      rintro e w1 ⟨rfl, e1⟩
      have E1 := hide (show Ext w w1 from Ext.trans (by repeat' (first | (with_reducible exact Below.refl _ _) | (with_reducible assumption) | (with_reducible refine below_drewN ?_ _) | (with_reducible refine Below.drew ?_) | (with_reducible refine ext_alloc ?_ _) | (with_reducible refine Below.setCell ?_ ?_ _) | go_size)) e1)
      have b1 := HBX.out.ext e1
      have x0 := b1.cell 0
      have x1 := b1.cell 1
      have x2 := b1.cell 2
      have x3 := b1.cell 3
      clear e1 b1
      go_wp2_with (first | ((go_at_call_of 32 (Value.string us); with_reducible refine (HNU.out _).mono ?_); rintro e w' ⟨rfl, rfl⟩) | ((go_at_call_of 32 (Value.string os); with_reducible refine (HNO.out _).mono ?_); rintro e w' ⟨rfl, rfl⟩) | ((go_at_call 33; with_reducible refine (within_yes ?_ _).mono ?_); (focus omega); rintro e w' ⟨rfl, rfl⟩) | ((go_at_call 33; with_reducible refine (within_no ?_ _).mono ?_); (focus omega); rintro e w' ⟨rfl, rfl⟩))
      go_ret
      exact ⟨rfl, E1.out⟩
    have d2' : 0 ≤ T ∧ T ≤ 1000000000000000 := by omega
    have d3 : F < -1 ∨ T < F := by omega
    clear c2 d1 d2
    go_enter Try.func37, Try.ntmps37
    go_wp2_with fail
    refine (HC.out _ (by repeat' (first | (with_reducible exact Below.refl _ _) | (with_reducible assumption) | (with_reducible refine below_drewN ?_ _) | (with_reducible refine Below.drew ?_) | (with_reducible refine ext_alloc ?_ _) | (with_reducible refine Below.setCell ?_ ?_ _) | go_size))).mono ?_
    rintro e w1 ⟨rfl, e1⟩
    have E1 := hide (show Ext w w1 from Ext.trans (by repeat' (first | (with_reducible exact Below.refl _ _) | (with_reducible assumption) | (with_reducible refine below_drewN ?_ _) | (with_reducible refine Below.drew ?_) | (with_reducible refine ext_alloc ?_ _) | (with_reducible refine Below.setCell ?_ ?_ _) | go_size)) e1)
    have b1 := HBX.out.ext e1
    have x0 := b1.cell 0
    have x1 := b1.cell 1
    have x2 := b1.cell 2
    have x3 := b1.cell 3
    clear e1 b1
    go_wp2_with (first | ((go_at_call_of 32 (Value.string us); with_reducible refine (HNU.out _).mono ?_); rintro e w' ⟨rfl, rfl⟩) | ((go_at_call_of 32 (Value.string os); with_reducible refine (HNO.out _).mono ?_); rintro e w' ⟨rfl, rfl⟩) | ((go_at_call 33; with_reducible refine (within_yes ?_ _).mono ?_); (focus omega); rintro e w' ⟨rfl, rfl⟩) | ((go_at_call 33; with_reducible refine (within_no ?_ _).mono ?_); (focus omega); rintro e w' ⟨rfl, rfl⟩))
    go_ret
    exact ⟨rfl, E1.out⟩
  have d1' : 0 ≤ p ∧ p ≤ 1000000000 := by omega
  have d2' : 0 ≤ T ∧ T ≤ 1000000000000000 := by omega
  have d3' : -1 ≤ F ∧ F ≤ T := by omega
  cases c3 : nameB os with
  | false =>
    have hF : playF L us p T F os ht = 5 := by unfold playF; rw [if_neg c0, if_neg (by simp [c1]), if_neg c2, if_pos c3]
    rw [hF]
    rw [c3] at HNO
    clear hF c0 hz c1 c2 c3
    go_enter Try.func37, Try.ntmps37
    go_wp2_with fail
    refine (HC.out _ (by repeat' (first | (with_reducible exact Below.refl _ _) | (with_reducible assumption) | (with_reducible refine below_drewN ?_ _) | (with_reducible refine Below.drew ?_) | (with_reducible refine ext_alloc ?_ _) | (with_reducible refine Below.setCell ?_ ?_ _) | go_size))).mono ?_
    rintro e w1 ⟨rfl, e1⟩
    have E1 := hide (show Ext w w1 from Ext.trans (by repeat' (first | (with_reducible exact Below.refl _ _) | (with_reducible assumption) | (with_reducible refine below_drewN ?_ _) | (with_reducible refine Below.drew ?_) | (with_reducible refine ext_alloc ?_ _) | (with_reducible refine Below.setCell ?_ ?_ _) | go_size)) e1)
    have b1 := HBX.out.ext e1
    have x0 := b1.cell 0
    have x1 := b1.cell 1
    have x2 := b1.cell 2
    have x3 := b1.cell 3
    clear e1 b1
    go_wp2_with (first | ((go_at_call_of 32 (Value.string us); with_reducible refine (HNU.out _).mono ?_); rintro e w' ⟨rfl, rfl⟩) | ((go_at_call_of 32 (Value.string os); with_reducible refine (HNO.out _).mono ?_); rintro e w' ⟨rfl, rfl⟩) | ((go_at_call 33; with_reducible refine (within_yes ?_ _).mono ?_); (focus omega); rintro e w' ⟨rfl, rfl⟩) | ((go_at_call 33; with_reducible refine (within_no ?_ _).mono ?_); (focus omega); rintro e w' ⟨rfl, rfl⟩))
    go_ret
    exact ⟨rfl, E1.out⟩
  | true =>
  rw [c3] at HNO
  by_cases c4 : ht < 1 ∨ 10000 < ht
  · have hF : playF L us p T F os ht = 1 := by unfold playF; rw [if_neg c0, if_neg (by simp [c1]), if_neg c2, if_neg (by simp [c3]), if_pos c4]
    rw [hF]
    clear hF c0 hz c1 c2 c3
    go_enter Try.func37, Try.ntmps37
    go_wp2_with fail
    refine (HC.out _ (by repeat' (first | (with_reducible exact Below.refl _ _) | (with_reducible assumption) | (with_reducible refine below_drewN ?_ _) | (with_reducible refine Below.drew ?_) | (with_reducible refine ext_alloc ?_ _) | (with_reducible refine Below.setCell ?_ ?_ _) | go_size))).mono ?_
    rintro e w1 ⟨rfl, e1⟩
    have E1 := hide (show Ext w w1 from Ext.trans (by repeat' (first | (with_reducible exact Below.refl _ _) | (with_reducible assumption) | (with_reducible refine below_drewN ?_ _) | (with_reducible refine Below.drew ?_) | (with_reducible refine ext_alloc ?_ _) | (with_reducible refine Below.setCell ?_ ?_ _) | go_size)) e1)
    have b1 := HBX.out.ext e1
    have x0 := b1.cell 0
    have x1 := b1.cell 1
    have x2 := b1.cell 2
    have x3 := b1.cell 3
    clear e1 b1
    go_wp2_with (first | ((go_at_call_of 32 (Value.string us); with_reducible refine (HNU.out _).mono ?_); rintro e w' ⟨rfl, rfl⟩) | ((go_at_call_of 32 (Value.string os); with_reducible refine (HNO.out _).mono ?_); rintro e w' ⟨rfl, rfl⟩) | ((go_at_call 33; with_reducible refine (within_yes ?_ _).mono ?_); (focus omega); rintro e w' ⟨rfl, rfl⟩) | ((go_at_call 33; with_reducible refine (within_no ?_ _).mono ?_); (focus omega); rintro e w' ⟨rfl, rfl⟩))
    go_ret
    exact ⟨rfl, E1.out⟩
  have c4' : 1 ≤ ht ∧ ht ≤ 10000 := by omega
  have hF : playF L us p T F os ht = 0 := by unfold playF; rw [if_neg c0, if_neg (by simp [c1]), if_neg c2, if_neg (by simp [c3]), if_neg c4]
  rw [hF]
  clear hF c0 hz c1 c2 c3 c4
  go_enter Try.func37, Try.ntmps37
  go_wp2_with fail
  refine (HC.out _ (by repeat' (first | (with_reducible exact Below.refl _ _) | (with_reducible assumption) | (with_reducible refine below_drewN ?_ _) | (with_reducible refine Below.drew ?_) | (with_reducible refine ext_alloc ?_ _) | (with_reducible refine Below.setCell ?_ ?_ _) | go_size))).mono ?_
  rintro e w1 ⟨rfl, e1⟩
  have E1 := hide (show Ext w w1 from Ext.trans (by repeat' (first | (with_reducible exact Below.refl _ _) | (with_reducible assumption) | (with_reducible refine below_drewN ?_ _) | (with_reducible refine Below.drew ?_) | (with_reducible refine ext_alloc ?_ _) | (with_reducible refine Below.setCell ?_ ?_ _) | go_size)) e1)
  have b1 := HBX.out.ext e1
  have x0 := b1.cell 0
  have x1 := b1.cell 1
  have x2 := b1.cell 2
  have x3 := b1.cell 3
  clear e1 b1
  go_wp2_with (first | ((go_at_call_of 32 (Value.string us); with_reducible refine (HNU.out _).mono ?_); rintro e w' ⟨rfl, rfl⟩) | ((go_at_call_of 32 (Value.string os); with_reducible refine (HNO.out _).mono ?_); rintro e w' ⟨rfl, rfl⟩) | ((go_at_call 33; with_reducible refine (within_yes ?_ _).mono ?_); (focus omega); rintro e w' ⟨rfl, rfl⟩) | ((go_at_call 33; with_reducible refine (within_no ?_ _).mono ?_); (focus omega); rintro e w' ⟨rfl, rfl⟩))
  go_ret
  exact ⟨rfl, E1.out⟩
theorem clo3_any {os : ByteArray} {ht : Int} {B : Nat} (x : OutV) (W : World) (h2 : W.cell? ⟨B, 2, none⟩ = some (.string os)) (h3 : W.cell? ⟨B, 3, none⟩ = some (.int .i64 ht)) :
    Calls Try.prog 54 #[.agg #[.string x.1, .int .i64 x.2], .pointer (some ⟨B, 0, none⟩)] W fun e w' => e = .returned (.bool (outP os ht x)) ∧ Ext W w' := by
  have e1 := bytes_eq x.1 os
  have EA := Ext.alloc W (.cells #[.string x.1, .int .i64 x.2] 98)
  have g2 := EA.cell h2
  have g3 := EA.cell h3
  obtain ⟨k, m⟩ := x
  simp only at e1 EA g2 g3
  clear EA h2 h3
  by_cases c1 : k = os
  · have hp : Hid (outP os ht (k, m) = decide (ht ≤ m)) := hide (by unfold outP; simp [c1])
    rw [decide_eq_true c1] at e1
    clear c1
    go_enter Try.func54, Try.ntmps54
    go_wp2
    go_ret
    exact ⟨ret_bool hp.out.symm, (by repeat' (first | (with_reducible exact Below.refl _ _) | (with_reducible assumption) | (with_reducible refine below_drewN ?_ _) | (with_reducible refine Below.drew ?_) | (with_reducible refine ext_alloc ?_ _) | (with_reducible refine Below.setCell ?_ ?_ _) | go_size))⟩
  · have hp : Hid (outP os ht (k, m) = false) := hide (by unfold outP; simp [c1])
    rw [decide_eq_false c1] at e1
    clear c1
    go_enter Try.func54, Try.ntmps54
    go_wp2
    go_ret
    exact ⟨ret_bool hp.out.symm, (by repeat' (first | (with_reducible exact Below.refl _ _) | (with_reducible assumption) | (with_reducible refine below_drewN ?_ _) | (with_reducible refine Below.drew ?_) | (with_reducible refine ext_alloc ?_ _) | (with_reducible refine Below.setCell ?_ ?_ _) | go_size))⟩
set_option maxRecDepth 100000 in
set_option maxHeartbeats 1000000 in
theorem idxO_any {g : Nat} {ptr : Value} {p : OutV → Bool} (eg : ∀ args w, (callFunc g args).run Try.prog w = .ok (.enter g args) w) {A : Option Addr} {n c : Nat} {L : List OutV} {w : World}
    (hp : ∀ (x : OutV) (W : World), Ext w W → Calls Try.prog g #[.agg #[.string x.1, .int .i64 x.2], ptr] W fun e w' => e = .returned (.bool (p x)) ∧ Ext W w') (h : At w 2 eO A n c L) :
    Calls Try.prog 60 #[.slice A n c, .func (.func g) #[] #[ptr]] w fun e w' => e = .returned (.int .i64 (idxP p L)) ∧ Ext w w' := by
  have hb := h.bound
  have HLN := hide h.len
  have H := hide h
  have HPP := hide hp
  clear h hp
  go_enter Try.func60, Try.ntmps60
  go_wp2
  go_loopw [5, 8] (fun _ ri wr => ∃ k : Nat, k ≤ n ∧ ri = .int .i64 k ∧ Hid (∀ j, j < k → p (L.getD j d0O) = false) ∧ Hid (Ext w wr)) (fun _ i _ => n - (intOf i).toNat)
  case atStart => exact ⟨0, by omega, rfl, hide (fun j hj => by omega), hide (Ext.refl _)⟩
  case round =>
    obtain ⟨k, hk, rfl, HA, HX⟩ := hrel
    by_cases hlt : k < n
    rotate_left
    · have HF : Hid (idxP p L = -1) := hide (idxP_no (d := d0O) (fun j hj => HA.out j (by have := HLN.out; omega)))
      go_wp2
      go_ret
      exact ⟨ret_int HF.out.symm, HX.out⟩
    have HW := hide (H.out.ext HX.out)
    obtain ⟨b, off, rfl, _⟩ := H.out.addr (by omega)
    have a0 := HW.out.cellK hlt d0O 0 _ rfl
    have a1 := HW.out.cellK hlt d0O 1 _ rfl
    simp only [Nat.add_zero] at a0
    have HC := hide (HPP.out (L.getD k d0O) wr HX.out)
    have HY : Hid (p (L.getD k d0O) = true → idxP p L = k) := hide (fun hq => idxP_at (d := d0O) (by have := HLN.out; omega) hq HA.out)
    have HN : Hid (p (L.getD k d0O) = false → ∀ j, j < k + 1 → p (L.getD j d0O) = false) := hide (fun hz j hj => by
      rcases Nat.lt_succ_iff_lt_or_eq.1 hj with h | h
      · exact HA.out j h
      · rw [h]; exact hz)
    generalize L.getD k d0O = x at *
    obtain ⟨u, m⟩ := x
    simp only at a0 a1 HC
    cases hpx : p (u, m) with
    | true =>
      have HF := hide (HY.out hpx)
      rw [hpx] at HC
      clear hpx
      go_wp2_with fail
      refine HC.out.mono ?_
      rintro e w' ⟨rfl, e1⟩
      have E1 := hide (Ext.trans HX.out e1)
      clear e1
      go_wp2
      go_ret
      exact ⟨ret_int HF.out.symm, E1.out⟩
    | false =>
      have HN2 := hide (HN.out hpx)
      rw [hpx] at HC
      clear hpx
      go_wp2_with fail
      refine HC.out.mono ?_
      rintro e w' ⟨rfl, e1⟩
      have E1 := hide (Ext.trans HX.out e1)
      clear e1
      go_wp2
      go_roundw
      case rel => exact ⟨k + 1, by omega, by go_num, HN2, E1⟩
      case measure => simp [intOf]; omega
theorem idxP_bd {α : Type} (p : α → Bool) (l : List α) : -1 ≤ idxP p l ∧ idxP p l ≤ l.length ∧ decide (0 ≤ idxP p l) = l.any p := by
  unfold idxP
  cases h : l.findIdx? p with
  | none =>
    rw [List.findIdx?_eq_none_iff] at h
    refine ⟨by simp, by first | (simp; done) | (simp; omega), ?_⟩
    have : l.any p = false := by rw [List.any_eq_false]; intro x hx; simp [h x hx]
    rw [this]; rfl
  | some i =>
    obtain ⟨hi, h1, _⟩ := List.findIdx?_eq_some_iff_getElem.1 h
    refine ⟨by first | (simp; done) | (simp; omega), by first | (simp; done) | (simp; omega), ?_⟩
    have : l.any p = true := List.any_eq_true.2 ⟨_, List.getElem_mem hi, h1⟩
    rw [this]; simp
theorem hasO_any {g : Nat} {ptr : Value} {p : OutV → Bool} (eg : ∀ args w, (callFunc g args).run Try.prog w = .ok (.enter g args) w) {A : Option Addr} {n c : Nat} {L : List OutV} {w : World}
    (hp : ∀ (x : OutV) (W : World), Ext w W → Calls Try.prog g #[.agg #[.string x.1, .int .i64 x.2], ptr] W fun e w' => e = .returned (.bool (p x)) ∧ Ext W w') (h : At w 2 eO A n c L) :
    Calls Try.prog 53 #[.slice A n c, .func (.func g) #[] #[ptr]] w fun e w' => e = .returned (.bool (L.any p)) ∧ Ext w w' := by
  have HI := hide (idxO_any eg hp h)
  have HB := hide (idxP_bd p L).2.2
  clear hp h
  generalize idxP p L = r at *
  go_enter Try.func53, Try.ntmps53
  go_wp2_with fail
  refine HI.out.mono ?_
  rintro e w1 ⟨rfl, e1⟩
  go_wp2
  go_ret
  exact ⟨ret_bool HB.out, e1⟩

set_option maxRecDepth 100000 in
set_option maxHeartbeats 8000000 in
theorem keyPerm_any (u i : ByteArray) (pf pt f t g : Int) {A : Option Addr} {n c : Nat} {O : List OutV} {w : World} (h : At w 2 eO A n c O) (us : ByteArray) (p T F : Int) (os : ByteArray) (ht : Int) (hg : 0 ≤ g ∧ g ≤ 1000000000000000) (hF : -1 ≤ F ∧ F ≤ 1000000000000000) :
    Calls Try.prog 36 #[.agg #[.string u, .string i, .int .i64 pf, .int .i64 pt, .int .i64 f, .int .i64 t, .int .i64 g, .slice A n c], .string us, .int .i64 p, .agg #[.int .i64 T, .int .i64 F, .string os, .int .i64 ht]] w fun e w' => e = .returned (.bool (permB ⟨us, p, os, ht⟩ F T ⟨u, i, pf, pt, f, t, g, O⟩)) ∧ Ext w w' := by
  have e1 := bytes_eq u us
  have hb := h.bound
  have HLN := hide h.len
  obtain ⟨hg1, hg2⟩ := hg
  obtain ⟨hF1, hF2⟩ := hF
  have hX : Ext w ((w.alloc (.cells #[.string u, .string i, .int .i64 pf, .int .i64 pt, .int .i64 f, .int .i64 t, .int .i64 g, .slice A n c] 74)).alloc (.cells #[.int .i64 T, .int .i64 F, .string os, .int .i64 ht] 44)) := ext_alloc (Ext.alloc _ _) _
  have HX := hide hX
  have hpl : Blk ((w.alloc (.cells #[.string u, .string i, .int .i64 pf, .int .i64 pt, .int .i64 f, .int .i64 t, .int .i64 g, .slice A n c] 74)).alloc (.cells #[.int .i64 T, .int .i64 F, .string os, .int .i64 ht] 44)) (w.heap.size + 1) 44 #[.int .i64 T, .int .i64 F, .string os, .int .i64 ht] := Blk.new1 _ _ _ _
  have HPL := hide hpl
  have HOB : Hid (outB ⟨us, p, os, ht⟩ (⟨u, i, pf, pt, f, t, g, O⟩ : LicV) = O.any (outP os ht)) := hide rfl
  have HCO := hide (fun (W : World) (hW : Ext ((w.alloc (.cells #[.string u, .string i, .int .i64 pf, .int .i64 pt, .int .i64 f, .int .i64 t, .int .i64 g, .slice A n c] 74)).alloc (.cells #[.int .i64 T, .int .i64 F, .string os, .int .i64 ht] 44)) W) => hasO_any (ptr := .pointer (some ⟨w.heap.size + 1, 0, none⟩)) (p := outP os ht) (enters_of Try.func54 (by kernel_rfl) rfl) (fun x W' hW' => clo3_any x W' ((hpl.ext (Ext.trans hW hW')).cell 2) ((hpl.ext (Ext.trans hW hW')).cell 3)) (h.ext (Ext.trans hX hW)))
  have H := hide h
  clear hX hpl h
  by_cases c0 : u = us
  rotate_left
  · have hv : permB ⟨us, p, os, ht⟩ F T ⟨u, i, pf, pt, f, t, g, O⟩ = false := permB_no1 (fun h => c0 h.1)
    rw [hv]
    rw [decide_eq_false c0] at e1
    clear hv c0
    go_enter Try.func36, Try.ntmps36
    go_wp2_with (((go_at_call 53; with_reducible refine (HCO.out _ (Ext.refl _)).mono ?_); rintro e w5 ⟨rfl, e5⟩))
    go_ret
    exact ⟨rfl, (by repeat' (first | (with_reducible exact Below.refl _ _) | (with_reducible assumption) | (with_reducible refine below_drewN ?_ _) | (with_reducible refine Below.drew ?_) | (with_reducible refine ext_alloc ?_ _) | (with_reducible refine Below.setCell ?_ ?_ _) | go_size))⟩
  rw [decide_eq_true c0] at e1
  by_cases c1 : pf ≤ p
  rotate_left
  · have hv : permB ⟨us, p, os, ht⟩ F T ⟨u, i, pf, pt, f, t, g, O⟩ = false := permB_no1 (fun h => c1 h.2.1)
    rw [hv]
    clear hv c0
    go_enter Try.func36, Try.ntmps36
    go_wp2_with (((go_at_call 53; with_reducible refine (HCO.out _ (Ext.refl _)).mono ?_); rintro e w5 ⟨rfl, e5⟩))
    go_ret
    exact ⟨rfl, (by repeat' (first | (with_reducible exact Below.refl _ _) | (with_reducible assumption) | (with_reducible refine below_drewN ?_ _) | (with_reducible refine Below.drew ?_) | (with_reducible refine ext_alloc ?_ _) | (with_reducible refine Below.setCell ?_ ?_ _) | go_size))⟩
  by_cases c2 : p < pt
  rotate_left
  · have hv : permB ⟨us, p, os, ht⟩ F T ⟨u, i, pf, pt, f, t, g, O⟩ = false := permB_no1 (fun h => c2 h.2.2.1)
    rw [hv]
    clear hv c0
    go_enter Try.func36, Try.ntmps36
    go_wp2_with (((go_at_call 53; with_reducible refine (HCO.out _ (Ext.refl _)).mono ?_); rintro e w5 ⟨rfl, e5⟩))
    go_ret
    exact ⟨rfl, (by repeat' (first | (with_reducible exact Below.refl _ _) | (with_reducible assumption) | (with_reducible refine below_drewN ?_ _) | (with_reducible refine Below.drew ?_) | (with_reducible refine ext_alloc ?_ _) | (with_reducible refine Below.setCell ?_ ?_ _) | go_size))⟩
  by_cases c3 : f ≤ T
  rotate_left
  · have hv : permB ⟨us, p, os, ht⟩ F T ⟨u, i, pf, pt, f, t, g, O⟩ = false := permB_no1 (fun h => c3 h.2.2.2.1)
    rw [hv]
    clear hv c0
    go_enter Try.func36, Try.ntmps36
    go_wp2_with (((go_at_call 53; with_reducible refine (HCO.out _ (Ext.refl _)).mono ?_); rintro e w5 ⟨rfl, e5⟩))
    go_ret
    exact ⟨rfl, (by repeat' (first | (with_reducible exact Below.refl _ _) | (with_reducible assumption) | (with_reducible refine below_drewN ?_ _) | (with_reducible refine Below.drew ?_) | (with_reducible refine ext_alloc ?_ _) | (with_reducible refine Below.setCell ?_ ?_ _) | go_size))⟩
  by_cases c4 : T < t
  rotate_left
  · have hv : permB ⟨us, p, os, ht⟩ F T ⟨u, i, pf, pt, f, t, g, O⟩ = false := permB_no1 (fun h => c4 h.2.2.2.2)
    rw [hv]
    clear hv c0
    go_enter Try.func36, Try.ntmps36
    go_wp2_with (((go_at_call 53; with_reducible refine (HCO.out _ (Ext.refl _)).mono ?_); rintro e w5 ⟨rfl, e5⟩))
    go_ret
    exact ⟨rfl, (by repeat' (first | (with_reducible exact Below.refl _ _) | (with_reducible assumption) | (with_reducible refine below_drewN ?_ _) | (with_reducible refine Below.drew ?_) | (with_reducible refine ext_alloc ?_ _) | (with_reducible refine Below.setCell ?_ ?_ _) | go_size))⟩
  cases c5 : O.any (outP os ht) with
  | false =>
    have hv : permB ⟨us, p, os, ht⟩ F T ⟨u, i, pf, pt, f, t, g, O⟩ = false := permB_no2 (HOB.out.trans c5)
    rw [hv]
    rw [c5] at HCO
    clear hv c0 c5
    go_enter Try.func36, Try.ntmps36
    go_wp2_with (((go_at_call 53; with_reducible refine (HCO.out _ (Ext.refl _)).mono ?_); rintro e w5 ⟨rfl, e5⟩))
    go_ret
    exact ⟨rfl, Ext.trans HX.out e5⟩
  | true =>
    rw [c5] at HCO
    by_cases c6 : g = 0 ∨ F = -1 ∨ T < F + g
    · have hv : permB ⟨us, p, os, ht⟩ F T ⟨u, i, pf, pt, f, t, g, O⟩ = true := permB_yes ⟨c0, c1, c2, c3, c4⟩ (HOB.out.trans c5) c6
      rw [hv]
      clear hv c0 c5
      by_cases d1 : g = 0
      · have d1' : (g == 0) = true := by simpa using d1
        clear c6 d1
        go_enter Try.func36, Try.ntmps36
        go_wp2_with fail
        refine (HCO.out _ (Ext.refl _)).mono ?_
        rintro e w5 ⟨rfl, e5⟩
        have E5 := hide (Ext.trans HX.out e5)
        have y5 := (e5.cell (((Blk.new w 74 #[.string u, .string i, .int .i64 pf, .int .i64 pt, .int .i64 f, .int .i64 t, .int .i64 g, .slice A n c]).alloc (.cells #[.int .i64 T, .int .i64 F, .string os, .int .i64 ht] 44)).cell 5))
        have y6 := (e5.cell (((Blk.new w 74 #[.string u, .string i, .int .i64 pf, .int .i64 pt, .int .i64 f, .int .i64 t, .int .i64 g, .slice A n c]).alloc (.cells #[.int .i64 T, .int .i64 F, .string os, .int .i64 ht] 44)).cell 6))
        have z0 := e5.cell (HPL.out.cell 0)
        have z1 := e5.cell (HPL.out.cell 1)
        clear e5
        go_wp2_with fail
        go_ret
        exact ⟨ret_bool (by first | rfl | (simp; omega)), E5.out⟩
      have d1' : (g == 0) = false := by simpa using d1
      by_cases d2 : F = -1
      · have d2' : (F == -1) = true := by simpa using d2
        clear c6 d1 d2
        go_enter Try.func36, Try.ntmps36
        go_wp2_with fail
        refine (HCO.out _ (Ext.refl _)).mono ?_
        rintro e w5 ⟨rfl, e5⟩
        have E5 := hide (Ext.trans HX.out e5)
        have y5 := (e5.cell (((Blk.new w 74 #[.string u, .string i, .int .i64 pf, .int .i64 pt, .int .i64 f, .int .i64 t, .int .i64 g, .slice A n c]).alloc (.cells #[.int .i64 T, .int .i64 F, .string os, .int .i64 ht] 44)).cell 5))
        have y6 := (e5.cell (((Blk.new w 74 #[.string u, .string i, .int .i64 pf, .int .i64 pt, .int .i64 f, .int .i64 t, .int .i64 g, .slice A n c]).alloc (.cells #[.int .i64 T, .int .i64 F, .string os, .int .i64 ht] 44)).cell 6))
        have z0 := e5.cell (HPL.out.cell 0)
        have z1 := e5.cell (HPL.out.cell 1)
        clear e5
        go_wp2_with fail
        go_ret
        exact ⟨ret_bool (by first | rfl | (simp; omega)), E5.out⟩
      have d2' : (F == -1) = false := by simpa using d2
      have d3 : T < F + g := by omega
      clear c6 d1 d2
      go_enter Try.func36, Try.ntmps36
      go_wp2_with fail
      refine (HCO.out _ (Ext.refl _)).mono ?_
      rintro e w5 ⟨rfl, e5⟩
      have E5 := hide (Ext.trans HX.out e5)
      have y5 := (e5.cell (((Blk.new w 74 #[.string u, .string i, .int .i64 pf, .int .i64 pt, .int .i64 f, .int .i64 t, .int .i64 g, .slice A n c]).alloc (.cells #[.int .i64 T, .int .i64 F, .string os, .int .i64 ht] 44)).cell 5))
      have y6 := (e5.cell (((Blk.new w 74 #[.string u, .string i, .int .i64 pf, .int .i64 pt, .int .i64 f, .int .i64 t, .int .i64 g, .slice A n c]).alloc (.cells #[.int .i64 T, .int .i64 F, .string os, .int .i64 ht] 44)).cell 6))
      have z0 := e5.cell (HPL.out.cell 0)
      have z1 := e5.cell (HPL.out.cell 1)
      clear e5
      go_wp2_with fail
      go_ret
      exact ⟨ret_bool (by first | rfl | (simp; omega)), E5.out⟩
    · have hv : permB ⟨us, p, os, ht⟩ F T ⟨u, i, pf, pt, f, t, g, O⟩ = false := permB_no3 c6
      rw [hv]
      clear hv c0 c5
      have d1' : (g == 0) = false := by simp; omega
      have d2' : (F == -1) = false := by simp; omega
      have d3 : F + g ≤ T := by omega
      clear c6
      go_enter Try.func36, Try.ntmps36
      go_wp2_with fail
      refine (HCO.out _ (Ext.refl _)).mono ?_
      rintro e w5 ⟨rfl, e5⟩
      have E5 := hide (Ext.trans HX.out e5)
      have y5 := (e5.cell (((Blk.new w 74 #[.string u, .string i, .int .i64 pf, .int .i64 pt, .int .i64 f, .int .i64 t, .int .i64 g, .slice A n c]).alloc (.cells #[.int .i64 T, .int .i64 F, .string os, .int .i64 ht] 44)).cell 5))
      have y6 := (e5.cell (((Blk.new w 74 #[.string u, .string i, .int .i64 pf, .int .i64 pt, .int .i64 f, .int .i64 t, .int .i64 g, .slice A n c]).alloc (.cells #[.int .i64 T, .int .i64 F, .string os, .int .i64 ht] 44)).cell 6))
      have z0 := e5.cell (HPL.out.cell 0)
      have z1 := e5.cell (HPL.out.cell 1)
      clear e5
      go_wp2_with fail
      go_ret
      exact ⟨ret_bool (by first | rfl | (simp; omega)), E5.out⟩
set_option maxRecDepth 100000 in
set_option maxHeartbeats 8000000 in
theorem refPerm_any (u i : ByteArray) (pf pt f t g : Int) {A : Option Addr} {n c : Nat} {O : List OutV} {w : World} (h : At w 2 eO A n c O) (us : ByteArray) (p T F : Int) (os : ByteArray) (ht : Int) (hg : 0 ≤ g ∧ g ≤ 1000000000000000) (hF : -1 ≤ F ∧ F ≤ 1000000000000000) :
    Calls Try.prog 38 #[.agg #[.string u, .string i, .int .i64 pf, .int .i64 pt, .int .i64 f, .int .i64 t, .int .i64 g, .slice A n c], .string us, .int .i64 p, .agg #[.int .i64 T, .int .i64 F, .string os, .int .i64 ht]] w fun e w' => e = .returned (.bool (permB ⟨us, p, os, ht⟩ F T ⟨u, i, pf, pt, f, t, g, O⟩)) ∧ Ext w w' := by
  have e1 := bytes_eq u us
  have hb := h.bound
  have HLN := hide h.len
  obtain ⟨hg1, hg2⟩ := hg
  obtain ⟨hF1, hF2⟩ := hF
  have hX : Ext w ((w.alloc (.cells #[.string u, .string i, .int .i64 pf, .int .i64 pt, .int .i64 f, .int .i64 t, .int .i64 g, .slice A n c] 74)).alloc (.cells #[.int .i64 T, .int .i64 F, .string os, .int .i64 ht] 44)) := ext_alloc (Ext.alloc _ _) _
  have HX := hide hX
  have hpl : Blk ((w.alloc (.cells #[.string u, .string i, .int .i64 pf, .int .i64 pt, .int .i64 f, .int .i64 t, .int .i64 g, .slice A n c] 74)).alloc (.cells #[.int .i64 T, .int .i64 F, .string os, .int .i64 ht] 44)) (w.heap.size + 1) 44 #[.int .i64 T, .int .i64 F, .string os, .int .i64 ht] := Blk.new1 _ _ _ _
  have HPL := hide hpl
  have HOB : Hid (outB ⟨us, p, os, ht⟩ (⟨u, i, pf, pt, f, t, g, O⟩ : LicV) = O.any (outP os ht)) := hide rfl
  have H := hide h
  clear hX hpl h
  by_cases c0 : u = us
  rotate_left
  · have hv : permB ⟨us, p, os, ht⟩ F T ⟨u, i, pf, pt, f, t, g, O⟩ = false := permB_no1 (fun h => c0 h.1)
    rw [hv]
    rw [decide_eq_false c0] at e1
    clear hv c0
    go_enter Try.func38, Try.ntmps38
    go_wp2_with (fail)
    go_ret
    exact ⟨rfl, (by repeat' (first | (with_reducible exact Below.refl _ _) | (with_reducible assumption) | (with_reducible refine below_drewN ?_ _) | (with_reducible refine Below.drew ?_) | (with_reducible refine ext_alloc ?_ _) | (with_reducible refine Below.setCell ?_ ?_ _) | go_size))⟩
  rw [decide_eq_true c0] at e1
  by_cases c1 : pf ≤ p
  rotate_left
  · have hv : permB ⟨us, p, os, ht⟩ F T ⟨u, i, pf, pt, f, t, g, O⟩ = false := permB_no1 (fun h => c1 h.2.1)
    rw [hv]
    clear hv c0
    go_enter Try.func38, Try.ntmps38
    go_wp2_with (fail)
    go_ret
    exact ⟨rfl, (by repeat' (first | (with_reducible exact Below.refl _ _) | (with_reducible assumption) | (with_reducible refine below_drewN ?_ _) | (with_reducible refine Below.drew ?_) | (with_reducible refine ext_alloc ?_ _) | (with_reducible refine Below.setCell ?_ ?_ _) | go_size))⟩
  by_cases c2 : p < pt
  rotate_left
  · have hv : permB ⟨us, p, os, ht⟩ F T ⟨u, i, pf, pt, f, t, g, O⟩ = false := permB_no1 (fun h => c2 h.2.2.1)
    rw [hv]
    clear hv c0
    go_enter Try.func38, Try.ntmps38
    go_wp2_with (fail)
    go_ret
    exact ⟨rfl, (by repeat' (first | (with_reducible exact Below.refl _ _) | (with_reducible assumption) | (with_reducible refine below_drewN ?_ _) | (with_reducible refine Below.drew ?_) | (with_reducible refine ext_alloc ?_ _) | (with_reducible refine Below.setCell ?_ ?_ _) | go_size))⟩
  by_cases c3 : f ≤ T
  rotate_left
  · have hv : permB ⟨us, p, os, ht⟩ F T ⟨u, i, pf, pt, f, t, g, O⟩ = false := permB_no1 (fun h => c3 h.2.2.2.1)
    rw [hv]
    clear hv c0
    go_enter Try.func38, Try.ntmps38
    go_wp2_with (fail)
    go_ret
    exact ⟨rfl, (by repeat' (first | (with_reducible exact Below.refl _ _) | (with_reducible assumption) | (with_reducible refine below_drewN ?_ _) | (with_reducible refine Below.drew ?_) | (with_reducible refine ext_alloc ?_ _) | (with_reducible refine Below.setCell ?_ ?_ _) | go_size))⟩
  by_cases c4 : T < t
  rotate_left
  · have hv : permB ⟨us, p, os, ht⟩ F T ⟨u, i, pf, pt, f, t, g, O⟩ = false := permB_no1 (fun h => c4 h.2.2.2.2)
    rw [hv]
    clear hv c0
    go_enter Try.func38, Try.ntmps38
    go_wp2_with (fail)
    go_ret
    exact ⟨rfl, (by repeat' (first | (with_reducible exact Below.refl _ _) | (with_reducible assumption) | (with_reducible refine below_drewN ?_ _) | (with_reducible refine Below.drew ?_) | (with_reducible refine ext_alloc ?_ _) | (with_reducible refine Below.setCell ?_ ?_ _) | go_size))⟩
  have c1' : ¬ p < pf := by omega
  have c2' : ¬ pt ≤ p := by omega
  have c3' : ¬ T < f := by omega
  have c4' : ¬ t ≤ T := by omega
  by_cases c6 : g = 0 ∨ F = -1 ∨ T < F + g
  rotate_left
  · have hv : permB ⟨us, p, os, ht⟩ F T ⟨u, i, pf, pt, f, t, g, O⟩ = false := permB_no3 c6
    rw [hv]
    clear hv c0
    have d1 : 0 < g := by omega
    have d2 : 0 ≤ F := by omega
    have d3 : F + g ≤ T := by omega
    clear c6
    go_enter Try.func38, Try.ntmps38
    go_wp2_with (fail)
    go_ret
    exact ⟨rfl, (by repeat' (first | (with_reducible exact Below.refl _ _) | (with_reducible assumption) | (with_reducible refine below_drewN ?_ _) | (with_reducible refine Below.drew ?_) | (with_reducible refine ext_alloc ?_ _) | (with_reducible refine Below.setCell ?_ ?_ _) | go_size))⟩
  have hv : permB ⟨us, p, os, ht⟩ F T ⟨u, i, pf, pt, f, t, g, O⟩ = O.any (outP os ht) := by
    rw [← HOB.out]
    cases c5 : outB ⟨us, p, os, ht⟩ (⟨u, i, pf, pt, f, t, g, O⟩ : LicV) with
    | false => exact permB_no2 c5
    | true => exact permB_yes ⟨c0, c1, c2, c3, c4⟩ c5 c6
  rw [hv]
  clear hv c0
  by_cases d1 : g = 0
  · have d1' : ¬ 0 < g := by omega
    clear c6 d1
    go_enter Try.func38, Try.ntmps38
    go_wp2_with fail
    go_loopw [64] (fun ri wr => ∃ k : Nat, k ≤ n ∧ ri = .int .i64 k ∧ Hid (∀ j, j < k → outP os ht (O.getD j d0O) = false) ∧ Hid (Ext ((w.alloc (.cells #[.string u, .string i, .int .i64 pf, .int .i64 pt, .int .i64 f, .int .i64 t, .int .i64 g, .slice A n c] 74)).alloc (.cells #[.int .i64 T, .int .i64 F, .string os, .int .i64 ht] 44)) wr)) (fun ri _ => n - (intOf ri).toNat)
    case atStart => exact ⟨0, by omega, rfl, hide (fun j hj => by omega), hide (Ext.refl _)⟩
    case round =>
      obtain ⟨k, hk, rfl, HZ, HY⟩ := hrel
      by_cases hlt : k < n
      rotate_left
      · have HF : Hid (O.any (outP os ht) = false) := hide (by
          rw [List.any_eq_false]
          intro x hx
          obtain ⟨j, hj, rfl⟩ := mem_getD d0O hx
          have := HZ.out j (by have := HLN.out; omega)
          rw [this]; exact Bool.false_ne_true)
        go_wp2_with fail
        go_ret
        exact ⟨ret_bool HF.out.symm, Ext.trans HX.out HY.out⟩
      have HW := hide (H.out.ext (Ext.trans HX.out HY.out))
      obtain ⟨b, off, rfl, _⟩ := H.out.addr (by omega)
      have a0 := HW.out.cellK hlt d0O 0 _ rfl
      have a1 := HW.out.cellK hlt d0O 1 _ rfl
      simp only [Nat.add_zero] at a0
      have z2 := HY.out.cell (HPL.out.cell 2)
      have z3 := HY.out.cell (HPL.out.cell 3)
      have HV : Hid (outP os ht (O.getD k d0O) = true → O.any (outP os ht) = true) := hide (fun hq => List.any_eq_true.2 ⟨_, getD_mem O k d0O (by have := HLN.out; omega), hq⟩)
      have HN : Hid (outP os ht (O.getD k d0O) = false → ∀ j, j < k + 1 → outP os ht (O.getD j d0O) = false) := hide (fun hz j hj => by
        rcases Nat.lt_succ_iff_lt_or_eq.1 hj with h | h
        · exact HZ.out j h
        · rw [h]; exact hz)
      generalize O.getD k d0O = x at *
      obtain ⟨q, m⟩ := x
      simp only at a0 a1 HV HN
      have z2' := (Ext.alloc wr (.cells #[.string q, .int .i64 m] 98)).cell z2
      have z3' := (Ext.alloc wr (.cells #[.string q, .int .i64 m] 98)).cell z3
      have e2 := bytes_eq q os
      clear z2 z3
      by_cases cq : q = os ∧ ht ≤ m
      · have HF := hide (HV.out (by unfold outP; exact decide_eq_true cq))
        obtain ⟨cq1, cq2⟩ := cq
        rw [decide_eq_true cq1] at e2
        clear cq1
        go_wp2_with fail
        go_ret
        exact ⟨ret_bool HF.out.symm, Ext.trans HX.out (Ext.trans HY.out (by repeat' (first | (with_reducible exact Below.refl _ _) | (with_reducible assumption) | (with_reducible refine below_drewN ?_ _) | (with_reducible refine Below.drew ?_) | (with_reducible refine ext_alloc ?_ _) | (with_reducible refine Below.setCell ?_ ?_ _) | go_size)))⟩
      have HN2 := hide (HN.out (by unfold outP; exact decide_eq_false cq))
      by_cases cq1 : q = os
      · have cq2 : ¬ ht ≤ m := fun h => cq ⟨cq1, h⟩
        rw [decide_eq_true cq1] at e2
        clear cq1 cq
        go_wp2_with fail
        go_roundw
        case rel => exact ⟨k + 1, by omega, by go_num, HN2, hide (Ext.trans HY.out (by repeat' (first | (with_reducible exact Below.refl _ _) | (with_reducible assumption) | (with_reducible refine below_drewN ?_ _) | (with_reducible refine Below.drew ?_) | (with_reducible refine ext_alloc ?_ _) | (with_reducible refine Below.setCell ?_ ?_ _) | go_size)))⟩
        case measure => simp [intOf]; omega
      · rw [decide_eq_false cq1] at e2
        clear cq1 cq
        go_wp2_with fail
        go_roundw
        case rel => exact ⟨k + 1, by omega, by go_num, HN2, hide (Ext.trans HY.out (by repeat' (first | (with_reducible exact Below.refl _ _) | (with_reducible assumption) | (with_reducible refine below_drewN ?_ _) | (with_reducible refine Below.drew ?_) | (with_reducible refine ext_alloc ?_ _) | (with_reducible refine Below.setCell ?_ ?_ _) | go_size)))⟩
        case measure => simp [intOf]; omega
  have d1' : 0 < g := by omega
  by_cases d2 : F = -1
  · have d2' : ¬ 0 ≤ F := by omega
    clear c6 d1 d2
    go_enter Try.func38, Try.ntmps38
    go_wp2_with fail
    go_loopw [64] (fun ri wr => ∃ k : Nat, k ≤ n ∧ ri = .int .i64 k ∧ Hid (∀ j, j < k → outP os ht (O.getD j d0O) = false) ∧ Hid (Ext ((w.alloc (.cells #[.string u, .string i, .int .i64 pf, .int .i64 pt, .int .i64 f, .int .i64 t, .int .i64 g, .slice A n c] 74)).alloc (.cells #[.int .i64 T, .int .i64 F, .string os, .int .i64 ht] 44)) wr)) (fun ri _ => n - (intOf ri).toNat)
    case atStart => exact ⟨0, by omega, rfl, hide (fun j hj => by omega), hide (Ext.refl _)⟩
    case round =>
      obtain ⟨k, hk, rfl, HZ, HY⟩ := hrel
      by_cases hlt : k < n
      rotate_left
      · have HF : Hid (O.any (outP os ht) = false) := hide (by
          rw [List.any_eq_false]
          intro x hx
          obtain ⟨j, hj, rfl⟩ := mem_getD d0O hx
          have := HZ.out j (by have := HLN.out; omega)
          rw [this]; exact Bool.false_ne_true)
        go_wp2_with fail
        go_ret
        exact ⟨ret_bool HF.out.symm, Ext.trans HX.out HY.out⟩
      have HW := hide (H.out.ext (Ext.trans HX.out HY.out))
      obtain ⟨b, off, rfl, _⟩ := H.out.addr (by omega)
      have a0 := HW.out.cellK hlt d0O 0 _ rfl
      have a1 := HW.out.cellK hlt d0O 1 _ rfl
      simp only [Nat.add_zero] at a0
      have z2 := HY.out.cell (HPL.out.cell 2)
      have z3 := HY.out.cell (HPL.out.cell 3)
      have HV : Hid (outP os ht (O.getD k d0O) = true → O.any (outP os ht) = true) := hide (fun hq => List.any_eq_true.2 ⟨_, getD_mem O k d0O (by have := HLN.out; omega), hq⟩)
      have HN : Hid (outP os ht (O.getD k d0O) = false → ∀ j, j < k + 1 → outP os ht (O.getD j d0O) = false) := hide (fun hz j hj => by
        rcases Nat.lt_succ_iff_lt_or_eq.1 hj with h | h
        · exact HZ.out j h
        · rw [h]; exact hz)
      generalize O.getD k d0O = x at *
      obtain ⟨q, m⟩ := x
      simp only at a0 a1 HV HN
      have z2' := (Ext.alloc wr (.cells #[.string q, .int .i64 m] 98)).cell z2
      have z3' := (Ext.alloc wr (.cells #[.string q, .int .i64 m] 98)).cell z3
      have e2 := bytes_eq q os
      clear z2 z3
      by_cases cq : q = os ∧ ht ≤ m
      · have HF := hide (HV.out (by unfold outP; exact decide_eq_true cq))
        obtain ⟨cq1, cq2⟩ := cq
        rw [decide_eq_true cq1] at e2
        clear cq1
        go_wp2_with fail
        go_ret
        exact ⟨ret_bool HF.out.symm, Ext.trans HX.out (Ext.trans HY.out (by repeat' (first | (with_reducible exact Below.refl _ _) | (with_reducible assumption) | (with_reducible refine below_drewN ?_ _) | (with_reducible refine Below.drew ?_) | (with_reducible refine ext_alloc ?_ _) | (with_reducible refine Below.setCell ?_ ?_ _) | go_size)))⟩
      have HN2 := hide (HN.out (by unfold outP; exact decide_eq_false cq))
      by_cases cq1 : q = os
      · have cq2 : ¬ ht ≤ m := fun h => cq ⟨cq1, h⟩
        rw [decide_eq_true cq1] at e2
        clear cq1 cq
        go_wp2_with fail
        go_roundw
        case rel => exact ⟨k + 1, by omega, by go_num, HN2, hide (Ext.trans HY.out (by repeat' (first | (with_reducible exact Below.refl _ _) | (with_reducible assumption) | (with_reducible refine below_drewN ?_ _) | (with_reducible refine Below.drew ?_) | (with_reducible refine ext_alloc ?_ _) | (with_reducible refine Below.setCell ?_ ?_ _) | go_size)))⟩
        case measure => simp [intOf]; omega
      · rw [decide_eq_false cq1] at e2
        clear cq1 cq
        go_wp2_with fail
        go_roundw
        case rel => exact ⟨k + 1, by omega, by go_num, HN2, hide (Ext.trans HY.out (by repeat' (first | (with_reducible exact Below.refl _ _) | (with_reducible assumption) | (with_reducible refine below_drewN ?_ _) | (with_reducible refine Below.drew ?_) | (with_reducible refine ext_alloc ?_ _) | (with_reducible refine Below.setCell ?_ ?_ _) | go_size)))⟩
        case measure => simp [intOf]; omega
  have d2' : 0 ≤ F := by omega
  have d3 : T < F + g := by omega
  clear c6 d1 d2
  go_enter Try.func38, Try.ntmps38
  go_wp2_with fail
  go_loopw [64] (fun ri wr => ∃ k : Nat, k ≤ n ∧ ri = .int .i64 k ∧ Hid (∀ j, j < k → outP os ht (O.getD j d0O) = false) ∧ Hid (Ext ((w.alloc (.cells #[.string u, .string i, .int .i64 pf, .int .i64 pt, .int .i64 f, .int .i64 t, .int .i64 g, .slice A n c] 74)).alloc (.cells #[.int .i64 T, .int .i64 F, .string os, .int .i64 ht] 44)) wr)) (fun ri _ => n - (intOf ri).toNat)
  case atStart => exact ⟨0, by omega, rfl, hide (fun j hj => by omega), hide (Ext.refl _)⟩
  case round =>
    obtain ⟨k, hk, rfl, HZ, HY⟩ := hrel
    by_cases hlt : k < n
    rotate_left
    · have HF : Hid (O.any (outP os ht) = false) := hide (by
        rw [List.any_eq_false]
        intro x hx
        obtain ⟨j, hj, rfl⟩ := mem_getD d0O hx
        have := HZ.out j (by have := HLN.out; omega)
        rw [this]; exact Bool.false_ne_true)
      go_wp2_with fail
      go_ret
      exact ⟨ret_bool HF.out.symm, Ext.trans HX.out HY.out⟩
    have HW := hide (H.out.ext (Ext.trans HX.out HY.out))
    obtain ⟨b, off, rfl, _⟩ := H.out.addr (by omega)
    have a0 := HW.out.cellK hlt d0O 0 _ rfl
    have a1 := HW.out.cellK hlt d0O 1 _ rfl
    simp only [Nat.add_zero] at a0
    have z2 := HY.out.cell (HPL.out.cell 2)
    have z3 := HY.out.cell (HPL.out.cell 3)
    have HV : Hid (outP os ht (O.getD k d0O) = true → O.any (outP os ht) = true) := hide (fun hq => List.any_eq_true.2 ⟨_, getD_mem O k d0O (by have := HLN.out; omega), hq⟩)
    have HN : Hid (outP os ht (O.getD k d0O) = false → ∀ j, j < k + 1 → outP os ht (O.getD j d0O) = false) := hide (fun hz j hj => by
      rcases Nat.lt_succ_iff_lt_or_eq.1 hj with h | h
      · exact HZ.out j h
      · rw [h]; exact hz)
    generalize O.getD k d0O = x at *
    obtain ⟨q, m⟩ := x
    simp only at a0 a1 HV HN
    have z2' := (Ext.alloc wr (.cells #[.string q, .int .i64 m] 98)).cell z2
    have z3' := (Ext.alloc wr (.cells #[.string q, .int .i64 m] 98)).cell z3
    have e2 := bytes_eq q os
    clear z2 z3
    by_cases cq : q = os ∧ ht ≤ m
    · have HF := hide (HV.out (by unfold outP; exact decide_eq_true cq))
      obtain ⟨cq1, cq2⟩ := cq
      rw [decide_eq_true cq1] at e2
      clear cq1
      go_wp2_with fail
      go_ret
      exact ⟨ret_bool HF.out.symm, Ext.trans HX.out (Ext.trans HY.out (by repeat' (first | (with_reducible exact Below.refl _ _) | (with_reducible assumption) | (with_reducible refine below_drewN ?_ _) | (with_reducible refine Below.drew ?_) | (with_reducible refine ext_alloc ?_ _) | (with_reducible refine Below.setCell ?_ ?_ _) | go_size)))⟩
    have HN2 := hide (HN.out (by unfold outP; exact decide_eq_false cq))
    by_cases cq1 : q = os
    · have cq2 : ¬ ht ≤ m := fun h => cq ⟨cq1, h⟩
      rw [decide_eq_true cq1] at e2
      clear cq1 cq
      go_wp2_with fail
      go_roundw
      case rel => exact ⟨k + 1, by omega, by go_num, HN2, hide (Ext.trans HY.out (by repeat' (first | (with_reducible exact Below.refl _ _) | (with_reducible assumption) | (with_reducible refine below_drewN ?_ _) | (with_reducible refine Below.drew ?_) | (with_reducible refine ext_alloc ?_ _) | (with_reducible refine Below.setCell ?_ ?_ _) | go_size)))⟩
      case measure => simp [intOf]; omega
    · rw [decide_eq_false cq1] at e2
      clear cq1 cq
      go_wp2_with fail
      go_roundw
      case rel => exact ⟨k + 1, by omega, by go_num, HN2, hide (Ext.trans HY.out (by repeat' (first | (with_reducible exact Below.refl _ _) | (with_reducible assumption) | (with_reducible refine below_drewN ?_ _) | (with_reducible refine Below.drew ?_) | (with_reducible refine ext_alloc ?_ _) | (with_reducible refine Below.setCell ?_ ?_ _) | go_size)))⟩
      case measure => simp [intOf]; omega
end Go.Proofs.Ytfpmjaeehhegcaa
