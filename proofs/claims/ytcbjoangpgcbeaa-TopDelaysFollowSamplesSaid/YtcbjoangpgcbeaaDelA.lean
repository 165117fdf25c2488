/- Walks: slices.Clone of samples, delay, Delay, Cut, Moved. Conditions as stated. -/
import Derived.Test.YtcbjoangpgcbeaaScU
import Derived.Test.YtcbjoangpgcbeaaSetF
import Derived.Test.YtcbjoangpgcbeaaSlice
import Derived.Test.YtcbjoangpgcbeaaMem
namespace Go.Proofs.Ytcbjoangpgcbeaa
open Go.RowKit
theorem Try.info43 : (Try.prog.info? 43).map (fun i => (i.zero, i.size, i.bytes)) = some (some (.agg #[.int .i64 0, .int .i64 0, .int .i64 0, .int .i64 0, .bool false]), 5, 40) := by kernel_rfl
set_option maxRecDepth 100000 in
set_option maxHeartbeats 2000000 in
theorem cloneSm_any {A : Option Addr} {n c : Nat} {l : List Smp} {w : World} (h : At w 5 eSm A n c l) (hb : n ≤ 100000000) :
    Calls Try.prog 14 #[.slice A n c] w fun e w' => ∃ A' c', e = .returned (.slice A' n c') ∧ Own w' w.heap.size 43 5 eSm (.slice A' n c') l ∧ Ext w w' := by
  obtain ⟨i0, hi0, hz0, hz1, hz2⟩ := info_parts Try.info43
  have hl := h.len
  have H := hide h
  have HL := hide hl
  clear hl h
  cases A with
  | none =>
    have hn := H.out.none_ rfl
    have hle := H.out.le
    obtain rfl : n = 0 := by omega
    have hc0 : c = 0 := hn
    subst hc0
    have e1 := fun (W : World) => Lib.run_eql_slice_nil (P := Try.prog) W 22 43 none 0 0 0 0 Try.underlying22
    go_enter Try.func14, Try.ntmps14
    obtain rfl : l = [] := List.eq_nil_of_length_eq_zero HL.out
    go_wp2
    go_ret
    exact ⟨none, 0, rfl, Own.nil _ _ _ _ _, Ext.refl _⟩
  | some a =>
    have e1 := fun (W : World) => Lib.run_eql_slice_nil (P := Try.prog) W 22 43 (some a) n c 0 0 Try.underlying22
    go_enter Try.func14, Try.ntmps14
    have o0 : Own (w.alloc (.cells #[] 43)) w.heap.size 43 5 eSm (.slice (some ⟨w.heap.size, 0, none⟩) 0 0) [] :=
      ⟨by simp, .inr ⟨w.heap.size, 0, #[], rfl, Nat.le_refl _, heap_alloc_new w _, Nat.le_refl _, by unfold maxLen; omega, rfl, rfl⟩⟩
    have O0 := hide o0
    clear o0
    go_wp2_with (at_builtin; refine wpList_append_at _ rfl (.tmp 5) (.tmp 6) 22 rfl w.heap.size 43 i0 _ 40 Try.underlying22 hi0 hz0 hz1 hz2 rfl (by omega) len_eSm one_eSm (.slice (some ⟨w.heap.size, 0, none⟩) 0 0) [] rfl O0.out (some a) n c l rfl (H.out.ext (by repeat' (first | (with_reducible exact Below.refl _ _) | (with_reducible assumption) | (with_reducible refine below_drewN ?_ _) | (with_reducible refine Below.drew ?_) | (with_reducible refine ext_alloc ?_ _) | (with_reducible refine Below.setCell ?_ ?_ _) | go_size))) ?b1 ?b2 ?b3 ?_)
    case b1 => simp; have := H.out.max; have := H.out.le; unfold maxLen at *; omega
    case b2 => simp; omega
    case b3 => simp
    intro v3 w3 o3 g3 n3 _
    have o3' : Own w3 w.heap.size 43 5 eSm v3 l := o3
    obtain ⟨A3, c3, hv3, _⟩ := o3'.at_ len_eSm
    rw [HL.out] at hv3
    rw [hv3] at o3' ⊢
    have O3 := hide o3'
    have E3 := hide (O0.out.below (Ext.alloc w (.cells #[] 43)) g3 (Nat.le_refl _))
    clear o3 o3' g3 n3 hv3
    go_wp2
    go_ret
    exact ⟨A3, c3, rfl, O3.out, E3.out⟩
/-- The fault of a parcel. -/
def pclF (s : Int) (l : List Smp) : Int := if smpF l ≠ 0 then smpF l else if s < 1 ∨ 1000000000 < s then 1 else 0
set_option maxRecDepth 100000 in
set_option maxHeartbeats 2000000 in
theorem parcel_any {A : Option Addr} {n c : Nat} {l : List Smp} {s : Int} {w : World} (h : At w 5 eSm A n c l) :
    Calls Try.prog 9 #[.agg #[.int .i64 s, .slice A n c]] w fun e w' => e = .returned (.int .i64 (pclF s l)) ∧ Ext w w' := by
  have E0 := hide (Ext.alloc w (.cells #[.int .i64 s, .slice A n c] 24))
  have X0 := hide (Blk.new w 24 #[.int .i64 s, .slice A n c])
  have HC := hide (keySamples_any (h.ext E0.out))
  have HF : Hid (pclF s l = if smpF l ≠ 0 then smpF l else if s < 1 ∨ 1000000000 < s then 1 else 0) := hide rfl
  clear h
  generalize smpF l = f at *
  have HSN := hide (fun (hs : ¬ (s < 1 ∨ 1000000000 < s)) (W : World) => noscale_no hs W)
  have HSY := hide (fun (hs : s < 1 ∨ 1000000000 < s) (W : World) => noscale_yes hs W)
  by_cases h0 : f = 0
  · subst h0
    by_cases hs : s < 1 ∨ 1000000000 < s
    · have HV : Hid (pclF s l = 1) := hide (by rw [HF.out, if_neg (by omega), if_pos hs])
      have HS := hide (HSY.out hs)
      clear hs
      go_enter Try.func9, Try.ntmps9
      go_wp2_with fail
      with_reducible refine HC.out.mono ?_
      rintro e w1 ⟨rfl, e1⟩
      have x0 : w1.cell? ⟨w.heap.size, 0, none⟩ = some (.int .i64 s) := (X0.out.ext e1).cell 0
      have E1 := hide (Ext.trans E0.out e1)
      clear e1
      go_wp2_with fail
      with_reducible refine (HS.out _).mono ?_
      rintro e w' ⟨rfl, rfl⟩
      go_wp2_with fail
      go_ret
      exact ⟨ret_int HV.out.symm, E1.out⟩
    · have HV : Hid (pclF s l = 0) := hide (by rw [HF.out, if_neg (by omega), if_neg hs])
      have HS := hide (HSN.out hs)
      clear hs
      go_enter Try.func9, Try.ntmps9
      go_wp2_with fail
      with_reducible refine HC.out.mono ?_
      rintro e w1 ⟨rfl, e1⟩
      have x0 : w1.cell? ⟨w.heap.size, 0, none⟩ = some (.int .i64 s) := (X0.out.ext e1).cell 0
      have E1 := hide (Ext.trans E0.out e1)
      clear e1
      go_wp2_with fail
      with_reducible refine (HS.out _).mono ?_
      rintro e w' ⟨rfl, rfl⟩
      go_wp2_with fail
      go_ret
      exact ⟨ret_int HV.out.symm, E1.out⟩
  · have HV : Hid (pclF s l = f) := hide (by rw [HF.out, if_pos h0])
    have d0 : (f != 0) = true := by simp [h0]
    clear h0
    go_enter Try.func9, Try.ntmps9
    go_wp2_with fail
    with_reducible refine HC.out.mono ?_
    rintro e w1 ⟨rfl, e1⟩
    have E1 := hide (Ext.trans E0.out e1)
    clear e1
    go_wp2_with fail
    go_ret
    exact ⟨ret_int HV.out.symm, E1.out⟩
set_option linter.unusedVariables false in
set_option maxRecDepth 100000 in
set_option maxHeartbeats 8000000 in
theorem delay_any {A : Option Addr} {n c : Nat} {l : List Smp} {s r : Nat} {w : World} (h : At w 5 eSm A n c l) (hz : smpF l = 0) (hs : 1 ≤ s ∧ s ≤ 1000000000) (hr : 1 ≤ r ∧ r ≤ 1000000000) :
    Calls Try.prog 11 #[.agg #[.int .i64 (s : Int), .slice A n c], .int .i64 (r : Int)] w fun e w' => e = .returned (.int .i64 (dlF s r l n)) ∧ Ext w w' := by
  obtain ⟨hs1, hs2⟩ := hs
  obtain ⟨hr1, hr2⟩ := hr
  have hl := h.len
  obtain ⟨h1, h2, h3⟩ := smpF_zero hz
  have HBD := hide (fun i (hi : i < l.length) => (smpEl_zero (h2 i hi)).1)
  have HBM := hide (fun (k : Nat) (hk : k ≤ l.length) => byN_mul (s := s) HBD.out h1 hs2 hk)
  have HDB := hide (fun (k : Nat) (hk : k ≤ l.length) => dlF_bd (r := r) HBD.out h1 hs2 k hk)
  have HSU := hide (fun (x : Nat) (hx : x < 9223372036854775808) (hxs : x * s < 1000000000000000000) (W : World) => scaled_up x s r hx (by omega) (by omega) (by omega) hxs W)
  have E0 := hide (Ext.alloc w (.cells #[.int .i64 (s : Int), .slice A n c] 24))
  have X0 := hide (Blk.new w 24 #[.int .i64 (s : Int), .slice A n c])
  have H := hide h
  have HL := hide hl
  have hn5 : n ≤ 5000 := by omega
  clear h hl hz h1 h2 h3
  go_enter Try.func11, Try.ntmps11
  go_wp2_with fail
  go_loopw [5, 6, 12] (fun rm rb ri wr => ∃ k : Nat, k ≤ n ∧ ri = .int .i64 k ∧ rm = .int .i64 (dlF s r l k) ∧ rb = .int .i64 (byN l k) ∧ Hid (Ext (w.alloc (.cells #[.int .i64 (s : Int), .slice A n c] 24)) wr)) (fun _ _ ri _ => n - (intOf ri).toNat)
  case atStart => exact ⟨0, by omega, rfl, rfl, rfl, hide (Ext.refl _)⟩
  case round =>
    obtain ⟨k, hk, rfl, rfl, rfl, HX⟩ := hrel
    have HW := hide (Ext.trans E0.out HX.out)
    by_cases hlt : k < n
    · obtain ⟨b, off, rfl, _⟩ := H.out.addr (by omega)
      have hat := H.out.ext HW.out
      have a0 := hat.cellK hlt dS 0 _ rfl
      have a1 := hat.cellK hlt dS 1 _ rfl
      have a2 := hat.cellK hlt dS 2 _ rfl
      have a3 := hat.cellK hlt dS 3 _ rfl
      have a4 := hat.cellK hlt dS 4 _ rfl
      rw [Nat.add_zero] at a0
      have z0 : wr.cell? ⟨b, off, none⟩ = some (.int .i64 (l.getD 0 dS).time) := by simpa using hat.cellK (show 0 < n by omega) dS 0 _ rfl
      have p0 : wr.cell? ⟨w.heap.size, 0, none⟩ = some (.int .i64 (s : Int)) := (X0.out.ext HX.out).cell 0
      have p1 : wr.cell? ⟨w.heap.size, 1, none⟩ = some (.slice (some ⟨b, off, none⟩) n c) := (X0.out.ext HX.out).cell 1
      have hbk := badS_ok (HBD.out k (by have := HL.out; omega))
      have hb0 := badS_ok (HBD.out 0 (by have := HL.out; omega))
      have hm1 := HBM.out (k + 1) (by have := HL.out; omega)
      have hm0 := HBM.out k (by have := HL.out; omega)
      have hd0 := HDB.out k (by have := HL.out; omega)
      have hcq := ceilQ_le (byN l (k + 1) * s) r
      have HB1 : Hid (byN l (k + 1) = byN l k + (l.getD k dS).size.toNat) := hide rfl
      have HD1 : Hid (dlF s r l (k + 1) = max (dlF s r l k) ((ceilQ (byN l (k + 1) * s) r : Nat) - ((l.getD k dS).time - (l.getD 0 dS).time))) := hide rfl
      have HSC := hide (HSU.out (byN l (k + 1)) (by omega) (by omega))
      have hbn : ((byN l (k + 1) : Nat) : Int) = (byN l k : Int) + (l.getD k dS).size := by rw [HB1.out]; omega
      obtain ⟨B1, hB1⟩ : ∃ B1, B1 = byN l (k + 1) := ⟨_, rfl⟩
      obtain ⟨C1, hC1⟩ : ∃ C1, C1 = ceilQ (byN l (k + 1) * s) r := ⟨_, rfl⟩
      rw [← hC1] at HD1 HSC hcq
      rw [← hB1] at hbn HSC hm1 hcq
      have HQ := hide (And.intro hB1 hC1)
      clear hC1 hB1 hat
      generalize dlF s r l k = D0 at *
      generalize byN l k = B0 at *
      generalize (l.getD k dS).time = y0 at *
      generalize (l.getD k dS).step = y1 at *
      generalize (l.getD k dS).shift = y2 at *
      generalize (l.getD k dS).size = y3 at *
      generalize (l.getD k dS).key = y4 at *
      generalize (l.getD 0 dS).time = q0 at *
      have i1 : (k : Int) < (n : Int) := by omega
      have i0 : (0 : Int) ≤ (k : Int) := by omega
      have i2 : (0 : Int) < (n : Int) := by omega
      have i3 : 0 < n := by omega
      have i8 : IntKind.i64.wrap ((k : Int) + 1) = (k : Int) + 1 := by rw [IntKind.wrap_i64]; omega
      have u1 : IntKind.i64.wrap ((B0 : Int) + y3) = (B1 : Int) := by rw [IntKind.wrap_i64]; omega
      have u2 : IntKind.i64.wrap (y0 - q0) = y0 - q0 := by rw [IntKind.wrap_i64]; omega
      have u3 : IntKind.i64.wrap ((C1 : Int) - (y0 - q0)) = (C1 : Int) - (y0 - q0) := by rw [IntKind.wrap_i64]; omega
      have HDV : Hid (max D0 ((C1 : Int) - (y0 - q0)) = dlF s r l (k + 1)) := hide HD1.out.symm
      have HBV : Hid ((B1 : Int) = ((byN l (k + 1) : Nat) : Int)) := hide (by rw [← HQ.out.1])
      clear hbk hb0 hm1 hm0 hd0 hcq hbn HB1 HD1 HQ
      go_upto_region 6 with (fail)
      refine gen_wpC fun w4 h4 => ?_
      obtain ⟨sb, hsb⟩ : ∃ sb, sb = wr.heap.size := ⟨_, rfl⟩
      rw [← hsb]
      have EX : Hid (Ext wr w4) := hide (by rw [h4]; exact Ext.alloc _ _)
      have SB : Hid (Blk w4 sb 43 #[.int .i64 y0, .int .i64 y1, .int .i64 y2, .int .i64 y3, .bool y4]) := hide (by rw [h4, hsb]; exact Blk.new _ _ _)
      have c0 : w4.cell? ⟨sb, 0, none⟩ = some (.int .i64 y0) := SB.out.cell 0
      have c1 := EX.out.cell p0
      have c2 := EX.out.cell p1
      have c3 := EX.out.cell z0
      clear h4 hsb a0 a1 a2 a3 a4 p0 p1 z0
      go_region_held3 (fun w' => w'.cell? ⟨sb, 0, none⟩ = some (.int .i64 y0) ∧ w'.cell? ⟨w.heap.size, 0, none⟩ = some (.int .i64 (s : Int)) ∧ w'.cell? ⟨w.heap.size, 1, none⟩ = some (.slice (some ⟨b, off, none⟩) n c) ∧ w'.cell? ⟨b, off, none⟩ = some (.int .i64 q0)) (first | go_keep | exact ⟨E5.cell c0, E5.cell c1, E5.cell c2, E5.cell c3⟩) (first | ((go_at_call 19; with_reducible refine (HSC.out _).mono ?_); rintro e w5 ⟨rfl, e5⟩; have E5 : Ext w4 w5 := Ext.trans (Ext.drew _) e5))
      all_goals
        go_wp2_with fail
        exact ⟨⟨k + 1, by omega, by go_num, by rw [HDV.out], by rw [HBV.out], hide (Ext.trans HX.out (Ext.trans EX.out E5))⟩, by simp [intOf]; omega⟩
    · obtain rfl : k = n := by omega
      clear hlt
      go_wp2_with fail
      go_ret
      exact ⟨rfl, HW.out⟩
set_option linter.unusedVariables false in
set_option maxRecDepth 100000 in
set_option maxHeartbeats 4000000 in
theorem keyDelay_any {A : Option Addr} {n c : Nat} {l : List Smp} {s r : Int} {w : World} (h : At w 5 eSm A n c l) :
    Calls Try.prog 4 #[.agg #[.int .i64 s, .slice A n c], .int .i64 r] w fun e w' => e = .returned (.tuple #[.int .i64 (delV s r l), .int .i64 (delF s r l)]) ∧ Ext w w' := by
  have E0 := hide (Ext.alloc w (.cells #[.int .i64 s, .slice A n c] 24))
  have X0 := hide (Blk.new w 24 #[.int .i64 s, .slice A n c])
  have HP := hide (parcel_any (s := s) (h.ext E0.out))
  have H := hide h
  have hl := h.len
  clear h
  have hdef : delF s r l = if pclF s l ≠ 0 then pclF s l else if r < 1 ∨ 1000000000 < r then 1 else if 1000000000000 < dlF s.toNat r.toNat l l.length then 1 else 0 := by
    unfold delF pclF
    by_cases h1 : smpF l ≠ 0
    · rw [if_pos h1, if_pos h1, if_pos h1]
    · rw [if_neg h1, if_neg h1]
      by_cases h2 : s < 1 ∨ 1000000000 < s
      · rw [if_pos h2, if_pos h2, if_pos (show ((1 : Int) ≠ 0) by simp)]
      · rw [if_neg h2, if_neg h2, if_neg (show ¬ ((0 : Int) ≠ 0) by simp)]
  have vdef : delV s r l = if delF s r l = 0 then dlF s.toNat r.toNat l l.length else 0 := rfl
  by_cases hp : pclF s l = 0
  · have hsm : smpF l = 0 ∧ ¬ (s < 1 ∨ 1000000000 < s) := by
      unfold pclF at hp
      by_cases h1 : smpF l ≠ 0
      · rw [if_pos h1] at hp; exact absurd hp h1
      · rw [if_neg h1] at hp
        by_cases h2 : s < 1 ∨ 1000000000 < s
        · rw [if_pos h2] at hp; omega
        · exact ⟨by omega, h2⟩
    rw [hp] at HP
    rw [if_neg (by omega)] at hdef
    by_cases hr : r < 1 ∨ 1000000000 < r
    · rw [if_pos hr] at hdef
      rw [hdef, if_neg (by omega)] at vdef
      have HV := hide (And.intro vdef hdef)
      have HO := hide (fun (W : World) => out_yes (n := r) (lo := 1) (hi := 1000000000) hr W)
      clear hdef vdef hr hp hsm
      go_enter Try.func4, Try.ntmps4
      go_wp2_with fail
      with_reducible refine HP.out.mono ?_
      rintro e w1 ⟨rfl, e1⟩
      have E1 := hide (Ext.trans E0.out e1)
      clear e1
      go_wp2_with fail
      with_reducible refine (HO.out _).mono ?_
      rintro e w' ⟨rfl, rfl⟩
      go_wp2_with fail
      go_ret2
      rw [HV.out.1, HV.out.2]
      exact ⟨rfl, E1.out⟩
    · rw [if_neg hr] at hdef
      obtain ⟨sn, rfl⟩ : ∃ sn : Nat, s = (sn : Int) := ⟨s.toNat, by omega⟩
      obtain ⟨rn, rfl⟩ : ∃ rn : Nat, r = (rn : Int) := ⟨r.toNat, by omega⟩
      have hsr := hsm.2
      have HD := hide (fun (W : World) (hW : Ext w W) => delay_any (s := sn) (r := rn) (H.out.ext hW) hsm.1 (by omega) (by omega))
      have HO := hide (fun (W : World) => out_no (n := (rn : Int)) (lo := 1) (hi := 1000000000) (by omega) W)
      rw [Int.toNat_natCast, Int.toNat_natCast, hl] at hdef vdef
      have HV : Hid (delF (sn : Int) (rn : Int) l = (if 1000000000000 < dlF sn rn l n then 1 else 0) ∧ delV (sn : Int) (rn : Int) l = (if 1000000000000 < dlF sn rn l n then 0 else dlF sn rn l n)) := hide ⟨hdef, by
        rw [vdef, hdef]
        by_cases hh : 1000000000000 < dlF sn rn l n
        · rw [if_pos hh, if_pos hh, if_neg (by omega)]
        · rw [if_neg hh, if_neg hh, if_pos rfl]⟩
      clear hdef vdef hr hp hsm hsr
      go_enter Try.func4, Try.ntmps4
      go_wp2_with fail
      with_reducible refine HP.out.mono ?_
      rintro e w1 ⟨rfl, e1⟩
      have E1 := hide (Ext.trans E0.out e1)
      have x0 : w1.cell? ⟨w.heap.size, 0, none⟩ = some (.int .i64 (sn : Int)) := (X0.out.ext e1).cell 0
      have x1 : w1.cell? ⟨w.heap.size, 1, none⟩ = some (.slice A n c) := (X0.out.ext e1).cell 1
      clear e1
      go_wp2_with fail
      with_reducible refine (HO.out _).mono ?_
      rintro e w' ⟨rfl, rfl⟩
      go_wp2_with fail
      with_reducible refine (HD.out _ E1.out).mono ?_
      rintro e w2 ⟨rfl, e2⟩
      have E2 := hide (Ext.trans E1.out e2)
      clear e2
      generalize dlF sn rn l n = dd at *
      by_cases hdd : 1000000000000 < dd
      · have HW : Hid (delF (sn : Int) (rn : Int) l = 1 ∧ delV (sn : Int) (rn : Int) l = 0) := hide (by have := HV.out; rw [if_pos hdd, if_pos hdd] at this; exact this)
        clear HV
        go_wp2_with fail
        go_ret2
        rw [HW.out.1, HW.out.2]
        exact ⟨rfl, E2.out⟩
      · have HW : Hid (delF (sn : Int) (rn : Int) l = 0 ∧ delV (sn : Int) (rn : Int) l = dd) := hide (by have := HV.out; rw [if_neg hdd, if_neg hdd] at this; exact this)
        clear HV
        go_wp2_with fail
        go_ret2
        rw [HW.out.1, HW.out.2]
        exact ⟨rfl, E2.out⟩
  · rw [if_pos hp] at hdef
    rw [hdef, if_neg hp] at vdef
    have HV := hide (And.intro vdef hdef)
    generalize pclF s l = f at *
    have d0 : (f != 0) = true := by simp [hp]
    clear hdef vdef hp
    go_enter Try.func4, Try.ntmps4
    go_wp2_with fail
    with_reducible refine HP.out.mono ?_
    rintro e w1 ⟨rfl, e1⟩
    have E1 := hide (Ext.trans E0.out e1)
    clear e1
    go_wp2_with fail
    go_ret2
    rw [HV.out.1, HV.out.2]
    exact ⟨rfl, E1.out⟩
set_option maxRecDepth 100000 in
set_option maxHeartbeats 4000000 in
/-- The first samples. -/
theorem cut_any {A : Option Addr} {n c m : Nat} {l : List Smp} {w : World} (h : At w 5 eSm A n c l) (hz : smpF l = 0) (hm : m ≤ n) :
    Calls Try.prog 7 #[.slice A n c, .agg #[.int .i64 0, .int .i64 (m : Int), .int .i64 0]] w fun e w' => ∃ A' c', e = .returned (.tuple #[.slice A' m c', .int .i64 0]) ∧ At w' 5 eSm A' m c' (l.take m) ∧ Ext w w' := by
  have E0 := hide (Ext.alloc w (.cells #[.int .i64 0, .int .i64 (m : Int), .int .i64 0] 33))
  have X0 := hide (Blk.new w 33 #[.int .i64 0, .int .i64 (m : Int), .int .i64 0])
  have HC := hide (keySamples_any (h.ext E0.out))
  rw [hz] at HC
  have hn5 : n ≤ 5000 := by have := (smpF_zero hz).1; have := h.len; omega
  obtain ⟨A1, hr1, ha1⟩ := h.range_ Try.underlying22 (fun _ => by kernel_rfl) (k := 0) (m := m) (by omega) (by omega) (0 : Int) (m : Int) rfl rfl
  have e1 : (l.drop 0).take (m - 0) = l.take m := by rw [List.drop_zero, Nat.sub_zero]
  rw [e1] at ha1
  simp only [Nat.sub_zero] at ha1 hr1
  have HCL := hide (fun (W : World) (hW : Ext w W) => cloneSm_any (ha1 W (h.ext hW)) (by omega))
  have i1 : (m : Int) ≤ (n : Int) := by omega
  have i2 : (0 : Int) ≤ (m : Int) := by omega
  clear h hz e1
  go_enter Try.func7, Try.ntmps7
  go_wp2_with fail
  with_reducible refine HC.out.mono ?_
  rintro e w1 ⟨rfl, e1⟩
  have x0 : w1.cell? ⟨w.heap.size, 0, none⟩ = some (.int .i64 0) := (X0.out.ext e1).cell 0
  have x1 : w1.cell? ⟨w.heap.size, 1, none⟩ = some (.int .i64 (m : Int)) := (X0.out.ext e1).cell 1
  have E1 := hide (Ext.trans E0.out e1)
  clear e1
  go_wp2_with fail
  with_reducible refine (HCL.out _ E1.out).mono ?_
  rintro e w2 ⟨A2, c2, rfl, o2, e2⟩
  have E2 := hide (Ext.trans E1.out e2)
  have P2 := hide (o2.atS len_eSm)
  clear o2 e2
  go_wp2_with fail
  go_ret2
  exact ⟨_, _, rfl, P2.out, E2.out⟩
set_option linter.unusedVariables false in
set_option maxRecDepth 100000 in
set_option maxHeartbeats 4000000 in
/-- Samples moved. -/
theorem movedIn_any {A : Option Addr} {n c : Nat} {l : List Smp} {w : World} (h : At w 5 eSm A n c l) (hz : smpF l = 0) :
    Calls Try.prog 17 #[.slice A n c, .int .i64 1000] w fun e w' => ∃ A' c', e = .returned (.slice A' n c') ∧ At w' 5 eSm A' n c' (mvL l) ∧ Ext w w' := by
  have hl := h.len
  obtain ⟨h1, h2, h3⟩ := smpF_zero hz
  have HBD := hide (fun i (hi : i < l.length) => (smpEl_zero (h2 i hi)).1)
  have HL := hide hl
  have hn5 : n ≤ 5000 := by omega
  have HCL := hide (cloneSm_any h (by omega))
  clear h hl hz h1 h2 h3
  go_enter Try.func17, Try.ntmps17
  go_wp2_with fail
  with_reducible refine HCL.out.mono ?_
  rintro e w1 ⟨A2, c2, rfl, o1, e1⟩
  have O1 := hide o1
  have E1 := hide e1
  clear o1 e1
  go_wp2_with fail
  go_loopw [11] (fun ri wr => ∃ k : Nat, k ≤ n ∧ ri = .int .i64 k ∧ Hid (Own wr w.heap.size 43 5 eSm (.slice A2 n c2) (mvL (l.take k) ++ l.drop k)) ∧ Hid (Ext w wr)) (fun ri _ => n - (intOf ri).toNat)
  case atStart => exact ⟨0, by omega, rfl, hide (by simpa [mvL] using O1.out), E1⟩
  case round =>
    obtain ⟨k, hk, rfl, HO, HX⟩ := hrel
    by_cases hlt : k < n
    · obtain ⟨g, rfl, hgb, hgl⟩ := HO.out.where_ (by omega) (by have := HL.out; simp [mvL]; omega)
      have hat := HO.out.atS len_eSm
      have a0 := hat.cellK hlt dS 0 _ rfl
      rw [Nat.add_zero, Nat.zero_add] at a0
      have hgd : (mvL (l.take k) ++ l.drop k).getD k dS = l.getD k dS := by
        have hlk : (mvL (l.take k)).length = k := by rw [mvL_len, List.length_take]; have := HL.out; omega
        rw [List.getD_eq_getElem?_getD, List.getElem?_append_right (by omega), hlk, Nat.sub_self, List.getElem?_drop, Nat.add_zero, ← List.getD_eq_getElem?_getD]
      rw [hgd] at a0
      have hfz := HO.out.frozenF (k * 5)
      have HST : Hid ((mvL (l.take k) ++ l.drop k).set k { l.getD k dS with time := (l.getD k dS).time + 1000 } = mvL (l.take (k + 1)) ++ l.drop (k + 1)) := hide (by
        have hlk : (mvL (l.take k)).length = k := by rw [mvL_len, List.length_take]; have := HL.out; omega
        have hkl : k < l.length := by have := HL.out; omega
        rw [List.set_append_right _ _ (by omega), hlk, Nat.sub_self, List.drop_eq_getElem_cons hkl, List.set_cons_zero, getD_take l k dS hkl]
        unfold mvL
        rw [List.map_append, List.append_assoc]
        rfl)
      have HSE := hide (HO.out.setF len_eSm dS k 0 hlt (by omega) { l.getD k dS with time := (l.getD k dS).time + 1000 } (.int .i64 ((l.getD k dS).time + 1000)) (by rw [hgd]; rfl))
      rw [HST.out, Nat.add_zero] at HSE
      have hbk := (badS_ok (HBD.out k (by have := HL.out; omega))).1
      have i1 : (k : Int) < (n : Int) := by omega
      have i0 : (0 : Int) ≤ (k : Int) := by omega
      have i8 : IntKind.i64.wrap ((k : Int) + 1) = (k : Int) + 1 := by rw [IntKind.wrap_i64]; omega
      generalize (l.getD k dS).time = y0 at *
      have u1 : IntKind.i64.wrap (y0 + 1000) = y0 + 1000 := by rw [IntKind.wrap_i64]; omega
      have HXT : Hid (Ext w (wr.setCell ⟨g, k * 5, none⟩ (.int .i64 (y0 + 1000)))) := hide ⟨HX.out.os, HX.out.tape, HX.out.output, Nat.le_trans HX.out.size (by simp [World.setCell]), fun j hj => (Below.heap_setCell wr ⟨g, k * 5, none⟩ _ j (by show j ≠ g; omega)).trans (HX.out.block j hj)⟩
      clear hat hgd hbk HST
      go_wp2_with fail
      exact ⟨⟨k + 1, by omega, by go_num, HSE, HXT⟩, by simp [intOf]; omega⟩
    · obtain rfl : k = n := by omega
      have HE : Hid (mvL (l.take k) ++ l.drop k = mvL l) := hide (by rw [List.take_of_length_le (by have := HL.out; omega), List.drop_of_length_le (by have := HL.out; omega), List.append_nil])
      rw [HE.out] at HO
      have P2 := hide (HO.out.atS len_eSm)
      clear hlt
      go_wp2_with fail
      go_ret
      exact ⟨_, _, rfl, P2.out, HX.out⟩
set_option maxRecDepth 100000 in
set_option maxHeartbeats 4000000 in
theorem checked_any {A : Option Addr} {n c : Nat} {l : List Smp} {w : World} (h : At w 5 eSm A n c l) :
    Calls Try.prog 16 #[.slice A n c] w fun e w' => (∃ A' n' c', e = .returned (.tuple #[.slice A' n' c', .int .i64 (smpF l)]) ∧ (smpF l = 0 → n' = n ∧ At w' 5 eSm A' n' c' l)) ∧ Ext w w' := by
  have HC := hide (keySamples_any h)
  have H := hide h
  clear h
  by_cases hz : smpF l = 0
  · rw [hz] at HC
    have HZ := hide hz
    clear hz
    go_enter Try.func16, Try.ntmps16
    go_wp2_with fail
    with_reducible refine HC.out.mono ?_
    rintro e w1 ⟨rfl, e1⟩
    have E1 := hide e1
    clear e1
    go_wp2_with fail
    go_ret2
    rw [HZ.out]
    exact ⟨⟨_, _, _, rfl, fun _ => ⟨rfl, H.out.ext E1.out⟩⟩, E1.out⟩
  · have HZ := hide hz
    generalize smpF l = f at *
    have d0 : (f != 0) = true := by simp [hz]
    clear hz
    go_enter Try.func16, Try.ntmps16
    go_wp2_with fail
    with_reducible refine HC.out.mono ?_
    rintro e w1 ⟨rfl, e1⟩
    have E1 := hide e1
    clear e1
    go_wp2_with fail
    go_ret2
    exact ⟨⟨_, _, _, rfl, fun h => absurd h HZ.out⟩, E1.out⟩
set_option maxRecDepth 100000 in
set_option maxHeartbeats 4000000 in
theorem moved_any {A : Option Addr} {n c : Nat} {l : List Smp} {w : World} (h : At w 5 eSm A n c l) (hz : smpF l = 0) :
    Calls Try.prog 8 #[.slice A n c, .int .i64 1000] w fun e w' => (∃ A' n' c', e = .returned (.tuple #[.slice A' n' c', .int .i64 (smpF (mvL l))]) ∧ (smpF (mvL l) = 0 → n' = n ∧ At w' 5 eSm A' n' c' (mvL l))) ∧ Ext w w' := by
  have HC := hide (keySamples_any h)
  rw [hz] at HC
  have HT := hide (fun (W : World) => notime_no (n := 1000) (by decide) W)
  have HM := hide (fun (W : World) (hW : Ext w W) => movedIn_any (h.ext hW) hz)
  clear h hz
  go_enter Try.func8, Try.ntmps8
  go_wp2_with fail
  with_reducible refine HC.out.mono ?_
  rintro e w1 ⟨rfl, e1⟩
  have E1 := hide e1
  clear e1
  go_wp2_with fail
  with_reducible refine (HT.out _).mono ?_
  rintro e w' ⟨rfl, rfl⟩
  go_wp2_with fail
  with_reducible refine (HM.out _ E1.out).mono ?_
  rintro e w2 ⟨A2, c2, rfl, a2, e2⟩
  have E2 := hide (Ext.trans E1.out e2)
  have HK := hide (checked_any a2)
  clear a2 e2
  go_wp2_with fail
  with_reducible refine HK.out.mono ?_
  rintro e w3 ⟨⟨A3, n3, c3, rfl, h3⟩, e3⟩
  have E3 := hide (Ext.trans E2.out e3)
  have H3 := hide h3
  clear h3 e3
  go_wp2_with fail
  go_ret2
  exact ⟨⟨_, _, _, rfl, H3.out⟩, E3.out⟩
set_option linter.unusedVariables false in
/-- A number turned into a range. -/
theorem turn_any (k : Int) (n : Nat) (hk : -9223372036854775808 ≤ k ∧ k ≤ 9223372036854775807) (hn : n ≤ 5000) (w : World) :
    Calls Try.prog 6 #[.int .i64 k, .int .i64 ((n : Int) + 1)] w fun e w' => (∃ m : Nat, m ≤ n ∧ e = .returned (.int .i64 (m : Int))) ∧ w = w' := by
  have hb : (((n : Int) + 1) == 0) = false := by rw [beq_eq_false_iff_ne]; omega
  have hb' : ((n : Int) + 1) ≠ 0 := by omega
  have ht1 : k.tmod ((n : Int) + 1) < (n : Int) + 1 := by
    have := Int.tmod_lt_of_pos k (show 0 < (n : Int) + 1 by omega); omega
  have ht2 : -((n : Int) + 1) < k.tmod ((n : Int) + 1) := by
    have h1 := Int.tmod_lt_of_pos (-k) (show 0 < (n : Int) + 1 by omega)
    rw [Int.neg_tmod] at h1; omega
  have HT : Hid (IntKind.i64.wrap (k.tmod ((n : Int) + 1)) = k.tmod ((n : Int) + 1)) := hide (by rw [IntKind.wrap_i64]; omega)
  have ht := HT.out
  clear hk
  generalize hq : k.tmod ((n : Int) + 1) = q at *
  have HQ := hide hq
  clear hq
  have u1 : IntKind.i64.wrap (q + ((n : Int) + 1)) = q + ((n : Int) + 1) := by rw [IntKind.wrap_i64]; omega
  by_cases hneg : q < 0
  · obtain ⟨m, hm, hmn⟩ : ∃ m : Nat, q + ((n : Int) + 1) = (m : Int) ∧ m ≤ n := ⟨(q + ((n : Int) + 1)).toNat, by omega, by omega⟩
    have HM := hide (And.intro hm hmn)
    clear hm hmn ht ht1 ht2 hn
    go_enter Try.func6, Try.ntmps6
    go_upto_region 2 with (fail)
    rw [HQ.out]
    go_wp2_with fail
    go_ret
    exact ⟨⟨m, HM.out.2, ret_int HM.out.1⟩, rfl⟩
  · obtain ⟨m, hm, hmn⟩ : ∃ m : Nat, q = (m : Int) ∧ m ≤ n := ⟨q.toNat, by omega, by omega⟩
    have HM := hide (And.intro hm hmn)
    clear hm hmn ht ht1 ht2 hn u1
    go_enter Try.func6, Try.ntmps6
    go_upto_region 2 with (fail)
    rw [HQ.out]
    go_wp2_with fail
    go_ret
    exact ⟨⟨m, HM.out.2, ret_int HM.out.1⟩, rfl⟩
end Go.Proofs.Ytcbjoangpgcbeaa
