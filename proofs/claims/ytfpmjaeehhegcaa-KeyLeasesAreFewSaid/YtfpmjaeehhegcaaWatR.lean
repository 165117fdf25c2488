/- Walk: Watching of the reference. Conditions: strings are no longer than strings can be. -/
import Derived.Test.YtfpmjaeehhegcaaLeaR
namespace Go.Proofs.Ytfpmjaeehhegcaa
open Go.RowKit

/-- The asks up to a time. -/
def watchL (Q : List AskV) (t : Int) : List AskV := Q.filter fun a => decide (a.1 ≤ t)
theorem watchL_take {Q : List AskV} {t : Int} {k : Nat} (hk : k < Q.length) : watchL (Q.take (k + 1)) t = if (Q.getD k d0A).1 ≤ t then watchL (Q.take k) t ++ [Q.getD k d0A] else watchL (Q.take k) t := by
  unfold watchL
  rw [getD_take Q k d0A hk, List.filter_append]
  generalize Q.getD k d0A = x
  by_cases h : x.1 ≤ t
  · rw [if_pos h]; simp [h]
  · rw [if_neg h]; simp [h]
def watchF (L : List SeatV) (Q : List AskV) (u : ByteArray) (t : Int) : Int :=
  if asksF L Q ≠ 0 then asksF L Q else if nameB u = false then 5 else if t < 0 ∨ 1000000000000000 < t then 1 else 0
def watchV (L : List SeatV) (Q : List AskV) (u : ByteArray) (t : Int) : Int := if watchF L Q u t = 0 then (lastN (heldsF L (watchL Q t)) u t : Nat) else 0
set_option maxRecDepth 100000 in
set_option maxHeartbeats 4000000 in
theorem refWatching_any {A B : Option Addr} {n c m d : Nat} {L : List SeatV} {Q : List AskV} {w : World} (h : At w 3 eS A n c L) (hg : ∀ x ∈ L, okS x) (h2 : At w 4 eA B m d Q) (hq : ∀ x ∈ Q, okA x) (us : ByteArray) (hus : us.size ≤ maxLen) (tm : Int) :
    Calls Try.prog 16 #[.slice A n c, .slice B m d, .string us, .int .i64 tm] w fun e w' => e = .returned (.tuple #[.int .i64 (watchV L Q us tm), .int .i64 (watchF L Q us tm)]) ∧ Ext w w' := by
  have HA := hide (refAsks_any h hg h2 hq)
  have HNM := hide (fun (W : World) => refName_any us hus W)
  have H := hide h
  have H2 := hide h2
  have hb := h2.bound
  have HLN := hide h2.len
  clear h hg h2 hq hus
  by_cases hz : asksF L Q = 0
  rotate_left
  · have hf : watchF L Q us tm = asksF L Q := by unfold watchF; rw [if_pos hz]
    have hv : watchV L Q us tm = 0 := by unfold watchV; rw [hf, if_neg hz]
    rw [hf, hv]
    have hb' : (asksF L Q != 0) = true := by rw [bne_iff_ne]; exact hz
    generalize asksF L Q = r at *
    clear hz hf hv
    go_enter Try.func16, Try.ntmps16
    go_wp2_with fail
    refine HA.out.mono ?_
    rintro e w1 ⟨rfl, e1⟩
    go_wp2_with fail
    go_ret2
    exact ⟨rfl, e1⟩
  have ok := hide (asksF_ok hz)
  have HSG := hide (fun x hx => (seatsF_ok ok.out.1 x hx).2)
  have hm : m ≤ 2000 := by have := ok.out.2.1; have := HLN.out; omega
  have HZ := hide hz
  rw [hz] at HA
  clear hz
  cases hn : nameB us with
  | false =>
    have hf : watchF L Q us tm = 5 := by unfold watchF; rw [if_neg (by have := HZ.out; omega), if_pos hn]
    have hv : watchV L Q us tm = 0 := by unfold watchV; rw [hf, if_neg (by decide)]
    rw [hf, hv]
    rw [hn] at HNM
    clear hf hv hn
    go_enter Try.func16, Try.ntmps16
    go_wp2_with fail
    refine HA.out.mono ?_
    rintro e w1 ⟨rfl, e1⟩
    go_wp2_with (((go_at_call 32; with_reducible refine (HNM.out _).mono ?_); rintro e w' ⟨rfl, rfl⟩))
    go_ret2
    exact ⟨rfl, e1⟩
  | true =>
  by_cases ht : tm < 0 ∨ 1000000000000000 < tm
  · have hf : watchF L Q us tm = 1 := by unfold watchF; rw [if_neg (by have := HZ.out; omega), if_neg (by simp [hn]), if_pos ht]
    have hv : watchV L Q us tm = 0 := by unfold watchV; rw [hf, if_neg (by decide)]
    rw [hf, hv]
    rw [hn] at HNM
    clear hf hv hn
    go_enter Try.func16, Try.ntmps16
    go_wp2_with fail
    refine HA.out.mono ?_
    rintro e w1 ⟨rfl, e1⟩
    go_wp2_with (first | ((go_at_call 32; with_reducible refine (HNM.out _).mono ?_); rintro e w' ⟨rfl, rfl⟩) | ((go_at_call 33; with_reducible refine (within_yes ?_ _).mono ?_); (focus omega); rintro e w' ⟨rfl, rfl⟩) | ((go_at_call 33; with_reducible refine (within_no ?_ _).mono ?_); (focus omega); rintro e w' ⟨rfl, rfl⟩))
    go_ret2
    exact ⟨rfl, e1⟩
  have hf : watchF L Q us tm = 0 := by unfold watchF; rw [if_neg (by have := HZ.out; omega), if_neg (by simp [hn]), if_neg ht]
  have hv : watchV L Q us tm = (lastN (heldsF L (watchL Q tm)) us tm : Nat) := by unfold watchV; rw [if_pos hf]
  rw [hf, hv]
  rw [hn] at HNM
  have ht' : 0 ≤ tm ∧ tm ≤ 1000000000000000 := by omega
  clear hf hv hn ht
  go_enter Try.func16, Try.ntmps16
  go_wp2_with fail
  refine HA.out.mono ?_
  rintro e w1 ⟨rfl, e1⟩
  have E1 := hide e1
  clear e1
  go_wp2_with (first | ((go_at_call 32; with_reducible refine (HNM.out _).mono ?_); rintro e w' ⟨rfl, rfl⟩) | ((go_at_call 33; with_reducible refine (within_yes ?_ _).mono ?_); (focus omega); rintro e w' ⟨rfl, rfl⟩) | ((go_at_call 33; with_reducible refine (within_no ?_ _).mono ?_); (focus omega); rintro e w' ⟨rfl, rfl⟩))
  go_loopw [11, 28] (fun rl ri wr => ∃ k : Nat, k ≤ m ∧ ri = .int .i64 k ∧ Hid (∃ A' n' c', rl = .slice A' n' c' ∧ At wr 3 eHd A' n' c' (heldsF L (watchL (Q.take k) tm))) ∧ Hid (Ext w1 wr)) (fun _ ri _ => m - (intOf ri).toNat)
  case atStart => exact ⟨0, by omega, rfl, hide ⟨none, 0, 0, rfl, by simpa [heldsF, watchL] using At.nil _ _ _⟩, hide (Ext.refl _)⟩
  case round =>
    obtain ⟨k, hk, rfl, HL0, HX⟩ := hrel
    obtain ⟨A', n', c', rfl, ha'⟩ := HL0.out
    have HAH := hide ha'
    clear ha' HL0
    have HW := hide (Ext.trans E1.out HX.out)
    by_cases hlt : k < m
    rotate_left
    · have HLA := hide (refLasting_any HAH.out us tm)
      rw [show Q.take k = Q from List.take_of_length_le (by have := HLN.out; omega)] at HLA
      go_wp2_with fail
      refine HLA.out.mono ?_
      rintro e w3 ⟨rfl, e3⟩
      go_wp2
      go_ret2
      exact ⟨rfl, Ext.trans HW.out e3⟩
    have hln : n' ≤ 3000 := by
      have h1 := HAH.out.len
      have h3 := heldsF_len L (watchL (Q.take k) tm)
      have h4 : (watchL (Q.take k) tm).length ≤ (Q.take k).length := List.length_filter_le _ _
      have h5 : (Q.take k).length ≤ k := List.length_take_le _ _
      omega
    have HQ := hide (H2.out.ext HW.out)
    obtain ⟨b, off, rfl, _⟩ := H2.out.addr (by omega)
    have a0 := HQ.out.cellK hlt d0A 0 _ rfl
    have a1 := HQ.out.cellK hlt d0A 1 _ rfl
    have a2 := HQ.out.cellK hlt d0A 2 _ rfl
    have a3 := HQ.out.cellK hlt d0A 3 _ rfl
    simp only [Nat.add_zero] at a0
    have hel := askEl_ok (ok.out.2.2 k (by have := HLN.out; omega))
    have HTK := hide (watchL_take (Q := Q) (t := tm) (k := k) (by have := HLN.out; omega))
    have ht := hel.1
    generalize Q.getD k d0A = x at *
    obtain ⟨t, u, s, q⟩ := x
    simp only at a0 a1 a2 a3 ht HTK
    have HAN := hide (fun (W : World) (hW : Ext wr W) => refAns_any (u := u) (s := s) (kd := q) (H.out.ext (Ext.trans HW.out hW)) (HAH.out.ext hW) ht HSG.out hln)
    clear hel ht
    by_cases hle : t ≤ tm
    · have HTK2 : Hid (heldsF L (watchL (Q.take (k + 1)) tm) = (ansF L (heldsF L (watchL (Q.take k) tm)) (t, u, s, q)).2) := hide (by rw [HTK.out, if_pos hle, heldsF_snoc])
      generalize ansF L (heldsF L (watchL (Q.take k) tm)) (t, u, s, q) = an at *
      go_wp2_with fail
      refine (HAN.out _ (by repeat' (first | (with_reducible exact Below.refl _ _) | (with_reducible assumption) | (with_reducible refine below_drewN ?_ _) | (with_reducible refine Below.drew ?_) | (with_reducible refine ext_alloc ?_ _) | (with_reducible refine Below.setCell ?_ ?_ _) | go_size))).mono ?_
      rintro e w5 ⟨A5, n5, c5, rfl, a5, e5, hd5⟩
      have P5 := hide a5
      have E5 : Hid (Ext wr w5) := hide (Ext.trans (Ext.alloc _ _) e5)
      clear e5 a5 hd5
      go_wp2_with fail
      go_roundw
      case rel => exact ⟨k + 1, by omega, by go_num, hide ⟨_, _, _, rfl, by rw [HTK2.out]; exact P5.out⟩, hide (Ext.trans HX.out E5.out)⟩
      case measure => simp [intOf]; omega
    · have HTK2 : Hid (watchL (Q.take (k + 1)) tm = watchL (Q.take k) tm) := hide (by rw [HTK.out, if_neg hle])
      go_wp2_with fail
      go_roundw
      case rel => exact ⟨k + 1, by omega, by go_num, hide ⟨_, _, _, rfl, by rw [HTK2.out]; exact HAH.out.ext (by repeat' (first | (with_reducible exact Below.refl _ _) | (with_reducible assumption) | (with_reducible refine below_drewN ?_ _) | (with_reducible refine Below.drew ?_) | (with_reducible refine ext_alloc ?_ _) | (with_reducible refine Below.setCell ?_ ?_ _) | go_size))⟩, hide (Ext.trans HX.out (by repeat' (first | (with_reducible exact Below.refl _ _) | (with_reducible assumption) | (with_reducible refine below_drewN ?_ _) | (with_reducible refine Below.drew ?_) | (with_reducible refine ext_alloc ?_ _) | (with_reducible refine Below.setCell ?_ ?_ _) | go_size)))⟩
      case measure => simp [intOf]; omega
end Go.Proofs.Ytfpmjaeehhegcaa
