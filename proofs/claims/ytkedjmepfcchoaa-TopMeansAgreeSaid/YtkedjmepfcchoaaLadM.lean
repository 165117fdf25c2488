/- Walks: ladder.segmentsFault and Mean, for segments that are right. Conditions as stated. -/
import Derived.Test.YtkedjmepfcchoaaLad
namespace Go.Proofs.Ytkedjmepfcchoaa
open Go.RowKit

section
variable {bA : Option Addr} {bn bc : Nat} {lA : Option Addr} {ln lc : Nat} {B L : List Int} {w : World}
set_option maxRecDepth 100000 in
set_option maxHeartbeats 2000000 in
theorem seg_any (hB : At w 1 e64 bA bn bc B) (hL : At w 1 e64 lA ln lc L) (hn : bn = ln) (h0 : 0 < ln) (h1 : ln ≤ 200) (hb : ∀ i, i < B.length → 0 ≤ B.getD i 0 ∧ B.getD i 0 ≤ 1000000000) (hl : ∀ i, i < L.length → 1 ≤ L.getD i 0 ∧ L.getD i 0 ≤ 1000000000) :
    Calls Try.prog 73 #[.slice bA bn bc, .slice lA ln lc, .int .i64 1000] w fun e w' => e = .returned (.int .i64 0) ∧ w = w' := by
  subst hn
  have e0 : ((bn : Int) == 0) = false := by simp; omega
  have HB := hide hB; have HL := hide hL; have Hb := hide hb; have Hl := hide hl
  have LB := hide hB.len; have LL := hide hL.len
  obtain ⟨b1, o1, rfl, _⟩ := hB.addr h0
  obtain ⟨b2, o2, rfl, _⟩ := hL.addr h0
  clear hB hL hb hl
  go_enter Try.func73, Try.ntmps73
  go_wp2_with fail
  go_loop [24] (fun ri => ∃ k : Nat, k ≤ bn ∧ ri = .int .i64 k) (fun ri => bn - (intOf ri).toNat)
  case atStart => exact ⟨0, by omega, rfl⟩
  case round =>
    obtain ⟨k, hk, rfl⟩ := hrel
    by_cases hlt : k < bn
    · have a1 := HB.out.num hlt
      have a2 := HL.out.num hlt
      have r1 := Hb.out k (by have := LB.out; omega)
      have r2 := Hl.out k (by have := LL.out; omega)
      generalize B.getD k 0 = x at *
      generalize L.getD k 0 = y at *
      go_wp2_with (first | ((go_at_call 65; with_reducible refine (out_no ?_ _).mono ?_); (focus omega); rintro e w' ⟨rfl, rfl⟩) | ((go_at_call 65; with_reducible refine (out_yes ?_ _).mono ?_); (focus omega); rintro e w' ⟨rfl, rfl⟩))
      go_round
      case rel => exact ⟨k + 1, by omega, by go_num⟩
      case measure => simp [intOf]; omega
    · go_wp2_with (first | (go_at_call 116; go_in) | ((go_at_call 65; with_reducible refine (out_no ?_ _).mono ?_); (focus omega); rintro e w' ⟨rfl, rfl⟩) | ((go_at_call 65; with_reducible refine (out_yes ?_ _).mono ?_); (focus omega); rintro e w' ⟨rfl, rfl⟩))
      go_ret
      exact ⟨rfl, rfl⟩
set_option maxRecDepth 100000 in
set_option maxHeartbeats 2000000 in
theorem mean_any (hB : At w 1 e64 bA bn bc B) (hL : At w 1 e64 lA ln lc L) (hn : bn = ln) (h0 : 0 < ln) (h1 : ln ≤ 200) (hb : ∀ i, i < B.length → 0 ≤ B.getD i 0 ∧ B.getD i 0 ≤ 1000000000) (hl : ∀ i, i < L.length → 1 ≤ L.getD i 0 ∧ L.getD i 0 ≤ 1000000000) :
    Calls Try.prog 29 #[.slice bA bn bc, .slice lA ln lc, .int .i64 1000] w fun e w' => ∃ n d : Nat, e = .returned (.tuple #[.agg #[.int .i64 n, .int .i64 d], .int .i64 0]) ∧ 1 ≤ d ∧ n / d = B.sum.toNat * 8 * 1000 / L.sum.toNat ∧ Ext w w' := by
  have HSG := hide (fun (W : World) (hW : Ext w W) => seg_any (hB.ext hW) (hL.ext hW) hn h0 h1 hb hl)
  subst hn
  have HB := hide hB; have HL := hide hL
  have LB := hide hB.len; have LL := hide hL.len
  obtain ⟨b1, o1, rfl, _⟩ := hB.addr h0
  obtain ⟨b2, o2, rfl, _⟩ := hL.addr h0
  have hsb := fun k (hk : k ≤ bn) => sumI_bound hb k (by have := LB.out; omega)
  have hsl := fun k (hk : k ≤ bn) => sumI_bound (l := L) (fun i hi => by have := hl i hi; omega) k (by have := LL.out; omega)
  have hlp := sum_pos (l := L) (by have := LL.out; omega) (by have := LL.out; omega) hl
  have hbp := hsb bn (Nat.le_refl _)
  rw [sumI_all LB.out] at hbp
  have HSB := hide (fun k (hk : k < bn) => sumI_succ (l := B) (k := k) (by have := LB.out; omega))
  have HSL := hide (fun k (hk : k < bn) => sumI_succ (l := L) (k := k) (by have := LL.out; omega))
  have HBB := hide hsb; have HLB := hide hsl
  have HR := hide (fun (W : World) => rateOf_any B.sum.toNat L.sum.toNat (by omega) (by omega) (by omega) W)
  rw [show ((B.sum.toNat : Nat) : Int) = B.sum by omega, show ((L.sum.toNat : Nat) : Int) = L.sum by omega] at HR
  have SB := hide (sumI_all LB.out); have SL := hide (sumI_all LL.out)
  clear hB hL hb hl hsb hsl hlp hbp
  go_enter Try.func29, Try.ntmps29
  go_wp2_with fail
  refine (HSG.out _ (by repeat' (first | (with_reducible exact Below.refl _ _) | (with_reducible assumption) | (with_reducible refine below_drewN ?_ _) | (with_reducible refine Below.drew ?_) | (with_reducible refine ext_alloc ?_ _) | (with_reducible refine Below.setCell ?_ ?_ _) | go_size))).mono ?_
  rintro e w' ⟨rfl, rfl⟩
  go_wp2_with fail
  go_loopw [9, 10, 22] (fun rb rl ri wr => ∃ k : Nat, k ≤ bn ∧ ri = .int .i64 k ∧ rb = .int .i64 (sumI B k) ∧ rl = .int .i64 (sumI L k) ∧ Hid (Ext (w.alloc (.cells #[.int .i64 0, .int .i64 0] 40)) wr)) (fun _ _ ri _ => bn - (intOf ri).toNat)
  case atStart => exact ⟨0, by omega, rfl, by simp [sumI], by simp [sumI], hide (Ext.refl _)⟩
  case round =>
    obtain ⟨k, hk, rfl, rfl, rfl, HX⟩ := hrel
    have EW := hide (Ext.trans (Ext.alloc w (.cells #[.int .i64 0, .int .i64 0] 40)) HX.out)
    by_cases hlt : k < bn
    · have a1 := (HB.out.ext EW.out).num hlt
      have a2 := (HL.out.ext EW.out).num hlt
      have p0 := HBB.out k hk
      have p1 := HBB.out (k + 1) (by omega)
      have q0 := HLB.out k hk
      have q1 := HLB.out (k + 1) (by omega)
      have hs1 := HSB.out k hlt
      have hs2 := HSL.out k hlt
      generalize B.getD k 0 = x at *
      generalize L.getD k 0 = y at *
      generalize hu1 : sumI B (k + 1) = u1 at *
      generalize hu2 : sumI L (k + 1) = u2 at *
      generalize sumI B k = u0 at *
      generalize sumI L k = v0 at *
      have r1 : 0 ≤ u0 + x := by omega
      have r2 : u0 + x ≤ 1000000000 * 201 := by omega
      have r3 : 0 ≤ v0 + y := by omega
      have r4 : v0 + y ≤ 1000000000 * 201 := by omega
      have U1 := hide (hu1.trans hs1)
      have U2 := hide (hu2.trans hs2)
      clear hu1 hu2 hs1 hs2 p0 p1 q0 q1
      go_wp2_with fail
      go_roundw
      case rel => exact ⟨k + 1, by omega, by go_num, by rw [U1.out], by rw [U2.out], HX⟩
      case measure => simp [intOf]; omega
    · obtain rfl : k = bn := by omega
      rw [SB.out, SL.out]
      go_wp2_with fail
      refine (HR.out _).mono ?_
      rintro e w2 ⟨n, d, rfl, hd, hnd, e2⟩
      have b2 := ((Blk.new w 40 #[.int .i64 0, .int .i64 0]).ext HX.out).ext e2
      have EW2 := hide (Ext.trans EW.out e2)
      have c0 := b2.cell 0
      have c1 := b2.cell 1
      have f0 := b2.frozen 0
      have f1 := b2.frozen 1
      have z2 := b2.lt
      have HB2 := hide b2
      have ND := hide hnd
      clear e2 b2 hnd
      go_wp2_with fail
      refine gen_body fun W3 h3 => ?_
      have B3 : Blk W3 w.heap.size 40 #[.int .i64 (n : Int), .int .i64 (d : Int)] := by rw [h3]; exact (HB2.out.set_ 0 _).set_ 1 _
      have E3 : Ext w W3 := by
        have ew := EW2.out
        rw [h3]
        exact (by repeat' (first | (with_reducible exact Below.refl _ _) | (with_reducible assumption) | (with_reducible refine below_drewN ?_ _) | (with_reducible refine Below.drew ?_) | (with_reducible refine ext_alloc ?_ _) | (with_reducible refine Below.setCell ?_ ?_ _) | go_size))
      have k0 := B3.cell 0
      have k1 := B3.cell 1
      clear h3 c0 c1 f0 f1 z2
      refine bodyPost_ret (v := .tuple #[.agg #[.int .i64 (n : Int), .int .i64 (d : Int)], .int .i64 0]) (by simp [results, Try.results29, go_sem, k0, k1]) rfl ⟨n, d, rfl, hd, ND.out, E3⟩
end
end Go.Proofs.Ytkedjmepfcchoaa
