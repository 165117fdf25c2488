/- Walk: Watching of the program. Conditions: strings are no longer than strings can be. -/
import Derived.Test.YtfpmjaeehhegcaaLeaK
namespace Go.Proofs.Ytfpmjaeehhegcaa
open Go.RowKit

set_option maxRecDepth 100000 in
set_option maxHeartbeats 4000000 in
theorem keyWatching_any {A B : Option Addr} {n c m d : Nat} {L : List SeatV} {Q : List AskV} {w : World} (h : At w 3 eS A n c L) (hg : ∀ x ∈ L, okS x) (h2 : At w 4 eA B m d Q) (hq : ∀ x ∈ Q, okA x) (us : ByteArray) (hus : us.size ≤ maxLen) (tm : Int) :
    Calls Try.prog 11 #[.slice A n c, .slice B m d, .string us, .int .i64 tm] w fun e w' => e = .returned (.tuple #[.int .i64 (watchV L Q us tm), .int .i64 (watchF L Q us tm)]) ∧ Ext w w' := by
  have HA := hide (keyAsks_any h hg h2 hq)
  have HNM := hide (fun (W : World) => isName_any us hus W)
  have H := hide h
  have H2 := hide h2
  have hb := h2.bound
  have HLN := hide h2.len
  clear h hg h2 hq hus
  by_cases hz : asksF L Q = 0
  rotate_left
  · have hf : watchF L Q us tm = asksF L Q := by unfold watchF; rw [if_pos hz]
    have hv : watchV L Q us tm = 0 := by unfold watchV; rw [hf, if_neg hz]
    rw [hf, hv]
    have hb' : (asksF L Q != 0) = true := by rw [bne_iff_ne]; exact hz
    generalize asksF L Q = r at *
    clear hz hf hv
    go_enter Try.func11, Try.ntmps11
    go_wp2_with fail
    refine HA.out.mono ?_
    rintro e w1 ⟨rfl, e1⟩
    go_wp2_with fail
    go_ret2
    exact ⟨rfl, e1⟩
  have ok := hide (asksF_ok hz)
  have HSG := hide (fun x hx => (seatsF_ok ok.out.1 x hx).2)
  have hm : m ≤ 2000 := by have := ok.out.2.1; have := HLN.out; omega
  have HZ := hide hz
  rw [hz] at HA
  clear hz
  cases hn : nameB us with
  | false =>
    have hf : watchF L Q us tm = 5 := by unfold watchF; rw [if_neg (by have := HZ.out; omega), if_pos hn]
    have hv : watchV L Q us tm = 0 := by unfold watchV; rw [hf, if_neg (by decide)]
    rw [hf, hv]
    rw [hn] at HNM
    clear hf hv hn
    go_enter Try.func11, Try.ntmps11
    go_wp2_with fail
    refine HA.out.mono ?_
    rintro e w1 ⟨rfl, e1⟩
    go_wp2_with (((go_at_call 27; with_reducible refine (HNM.out _).mono ?_); rintro e w' ⟨rfl, rfl⟩))
    go_ret2
    exact ⟨rfl, e1⟩
  | true =>
  by_cases ht : tm < 0 ∨ 1000000000000000 < tm
  · have hf : watchF L Q us tm = 1 := by unfold watchF; rw [if_neg (by have := HZ.out; omega), if_neg (by simp [hn]), if_pos ht]
    have hv : watchV L Q us tm = 0 := by unfold watchV; rw [hf, if_neg (by decide)]
    rw [hf, hv]
    rw [hn] at HNM
    clear hf hv hn
    go_enter Try.func11, Try.ntmps11
    go_wp2_with fail
    refine HA.out.mono ?_
    rintro e w1 ⟨rfl, e1⟩
    go_wp2_with (first | ((go_at_call 27; with_reducible refine (HNM.out _).mono ?_); rintro e w' ⟨rfl, rfl⟩) | ((go_at_call 28; with_reducible refine (out_no ?_ _).mono ?_); (focus omega); rintro e w' ⟨rfl, rfl⟩) | ((go_at_call 28; with_reducible refine (out_yes ?_ _).mono ?_); (focus omega); rintro e w' ⟨rfl, rfl⟩))
    go_ret2
    exact ⟨rfl, e1⟩
  have hf : watchF L Q us tm = 0 := by unfold watchF; rw [if_neg (by have := HZ.out; omega), if_neg (by simp [hn]), if_neg ht]
  have hv : watchV L Q us tm = (lastN (heldsF L (watchL Q tm)) us tm : Nat) := by unfold watchV; rw [if_pos hf]
  rw [hf, hv]
  rw [hn] at HNM
  have ht' : 0 ≤ tm ∧ tm ≤ 1000000000000000 := by omega
  clear hf hv hn ht
  go_enter Try.func11, Try.ntmps11
  go_wp2_with fail
  refine HA.out.mono ?_
  rintro e w1 ⟨rfl, e1⟩
  have E1 := hide e1
  clear e1
  go_wp2_with (first | ((go_at_call 27; with_reducible refine (HNM.out _).mono ?_); rintro e w' ⟨rfl, rfl⟩) | ((go_at_call 28; with_reducible refine (out_no ?_ _).mono ?_); (focus omega); rintro e w' ⟨rfl, rfl⟩) | ((go_at_call 28; with_reducible refine (out_yes ?_ _).mono ?_); (focus omega); rintro e w' ⟨rfl, rfl⟩))
  go_loopw [32] (fun ri wr => ∃ (k : Nat) (hA : Option Addr) (hn hc : Nat), k ≤ m ∧ ri = .int .i64 k ∧ Hid (OffAt wr w1.heap.size (w1.heap.size + 1) A n c L hA hn hc (heldsF L (watchL (Q.take k) tm))) ∧ Hid (Ext w1 wr)) (fun ri _ => m - (intOf ri).toNat)
  case atStart => exact ⟨0, none, 0, 0, by omega, rfl, hide (by simpa [heldsF, watchL] using OffAt.made (H.out.ext E1.out)), hide (Ext.alloc _ _)⟩
  case round =>
    obtain ⟨k, hA, hn, hc, hk, rfl, HOF, HX⟩ := hrel
    have HW := hide (Ext.trans E1.out HX.out)
    by_cases hlt : k < m
    rotate_left
    · have HLA := hide (keyLasting_any (HOF.out.blk.cell 1) (HOF.out.own.atS len_eHd) us tm)
      rw [show Q.take k = Q from List.take_of_length_le (by have := HLN.out; omega)] at HLA
      go_wp2_with fail
      refine HLA.out.mono ?_
      rintro e w3 ⟨rfl, e3⟩
      go_wp2
      go_ret2
      exact ⟨rfl, Ext.trans HW.out e3⟩
    have hln : hn ≤ 3000 := by
      have h1 := HOF.out.own.len len_eHd
      have h3 := heldsF_len L (watchL (Q.take k) tm)
      have h4 : (watchL (Q.take k) tm).length ≤ (Q.take k).length := List.length_filter_le _ _
      have h5 : (Q.take k).length ≤ k := List.length_take_le _ _
      omega
    have HQ := hide (H2.out.ext HW.out)
    obtain ⟨b, off, rfl, _⟩ := H2.out.addr (by omega)
    have a0 := HQ.out.cellK hlt d0A 0 _ rfl
    have a1 := HQ.out.cellK hlt d0A 1 _ rfl
    have a2 := HQ.out.cellK hlt d0A 2 _ rfl
    have a3 := HQ.out.cellK hlt d0A 3 _ rfl
    simp only [Nat.add_zero] at a0
    have hel := askEl_ok (ok.out.2.2 k (by have := HLN.out; omega))
    have HTK := hide (watchL_take (Q := Q) (t := tm) (k := k) (by have := HLN.out; omega))
    have ht := hel.1
    generalize Q.getD k d0A = x at *
    obtain ⟨t, u, s, q⟩ := x
    simp only at a0 a1 a2 a3 ht HTK
    have hbw : w1.heap.size + 1 ≤ wr.heap.size := by have := HOF.out.blk.lt; omega
    have HAN := hide (fun (W : World) (hW : Ext wr W) => keyAns_any (u := u) (s := s) (kd := q) (HOF.out.ext hW) ht HSG.out hln (Nat.le_trans hbw hW.size))
    have HBW := hide hbw
    clear hel ht hbw
    by_cases hle : t ≤ tm
    · have HTK2 : Hid (heldsF L (watchL (Q.take (k + 1)) tm) = (ansF L (heldsF L (watchL (Q.take k) tm)) (t, u, s, q)).2) := hide (by rw [HTK.out, if_pos hle, heldsF_snoc])
      generalize ansF L (heldsF L (watchL (Q.take k) tm)) (t, u, s, q) = an at *
      go_wp2_with fail
      refine (HAN.out _ (by repeat' (first | (with_reducible exact Below.refl _ _) | (with_reducible assumption) | (with_reducible refine below_drewN ?_ _) | (with_reducible refine Below.drew ?_) | (with_reducible refine ext_alloc ?_ _) | (with_reducible refine Below.setCell ?_ ?_ _) | go_size))).mono ?_
      rintro e w5 ⟨hA5, hn5, hc5, rfl, f5, fr5, own5⟩
      have OF5 := hide f5
      have F5 := hide fr5
      have HROW := hide (fun g (hg : (Value.slice hA hn hc).ownBlock = some g) => (HOF.out.own.lt g hg).1)
      have E5 : Hid (Ext w1 w5) := hide (Below.trans (Below.trans HX.out ((Ext.alloc wr _).mono HX.out.size)) (Fr.below F5.out (Nat.le_trans HX.out.size (Ext.alloc _ _).size) (Nat.le_refl _) (fun g hg => by have := HROW.out g hg; omega)))
      clear f5 fr5 own5
      go_wp2_with fail
      go_roundw
      case rel => exact ⟨k + 1, _, _, _, by omega, by go_num, hide (by rw [HTK2.out]; exact OF5.out), E5⟩
      case measure => simp [intOf]; omega
    · have HTK2 : Hid (watchL (Q.take (k + 1)) tm = watchL (Q.take k) tm) := hide (by rw [HTK.out, if_neg hle])
      go_wp2_with fail
      go_roundw
      case rel => exact ⟨k + 1, _, _, _, by omega, by go_num, hide (by rw [HTK2.out]; exact HOF.out.ext (by repeat' (first | (with_reducible exact Below.refl _ _) | (with_reducible assumption) | (with_reducible refine below_drewN ?_ _) | (with_reducible refine Below.drew ?_) | (with_reducible refine ext_alloc ?_ _) | (with_reducible refine Below.setCell ?_ ?_ _) | go_size))), hide (Ext.trans HX.out (by repeat' (first | (with_reducible exact Below.refl _ _) | (with_reducible assumption) | (with_reducible refine below_drewN ?_ _) | (with_reducible refine Below.drew ?_) | (with_reducible refine ext_alloc ?_ _) | (with_reducible refine Below.setCell ?_ ?_ _) | go_size)))⟩
      case measure => simp [intOf]; omega
end Go.Proofs.Ytfpmjaeehhegcaa
