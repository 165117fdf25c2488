/- Walk: byBuffer of the program, exactly. Conditions as stated. -/
import Derived.Test.YtfelgolfebhmkaaDoorMtm30
import Derived.Test.YtfelgolfebhmkaaDoorMtm34
import Derived.Test.YtfelgolfebhmkaaDoorMtm07
namespace Go.Proofs.YtfelgolfebhmkaaDoor
open Go.RowKit
theorem times_int {x y : Int} (hx : 0 ≤ x ∧ x < 9223372036854775808) (hy : 0 ≤ y ∧ y < 9223372036854775808) (w : World) : Calls Tryd.prog 47 #[.int .i64 x, .int .i64 y] w fun e w' => e = .returned (i128 (x.toNat * y.toNat)) ∧ Ext w w' := by
  have h := times_any x.toNat y.toNat (by omega) (by omega) w
  rw [Int.toNat_of_nonneg hx.1, Int.toNat_of_nonneg hy.1] at h
  exact h
theorem cell_farW {w : World} {b o : Nat} {v u : Value} {b2 o2 : Nat} (h : w.cell? ⟨b, o, none⟩ = some v) (hp : b ≠ b2) : (w.setCell ⟨b2, o2, none⟩ u).cell? ⟨b, o, none⟩ = some v := by
  have h4 := Below.heap_setCell w ⟨b2, o2, none⟩ u b hp
  unfold World.cell? at h ⊢
  simp only at h ⊢
  rw [h4]
  exact h
theorem compare128 (x y : Nat) (w : World) : Calls Tryd.prog 48 #[i128 x, .agg #[.int .i64 ((y / 18446744073709551616 : Nat) : Int), .int .u64 ((y % 18446744073709551616 : Nat) : Int)]] w fun e w' => e = .returned (.int .i64 (cmpI (x : Int) (y : Int))) ∧ Ext w w' := by
  have h := compare_any ((x / 18446744073709551616 : Nat) : Int) ((x % 18446744073709551616 : Nat) : Int) ((y / 18446744073709551616 : Nat) : Int) ((y % 18446744073709551616 : Nat) : Int) w
  rw [cmp128] at h
  exact h
theorem cmp_le {a b c d : Int} (ha : 0 ≤ a) (hb : 0 ≤ b) (hc : 0 ≤ c) (hd : 0 ≤ d) : decide (cmpI ((a.toNat * b.toNat : Nat) : Int) ((c.toNat * d.toNat : Nat) : Int) ≤ 0) = decide (a * b ≤ c * d) := by
  rw [Int.natCast_mul, Int.natCast_mul, Int.toNat_of_nonneg ha, Int.toNat_of_nonneg hb, Int.toNat_of_nonneg hc, Int.toNat_of_nonneg hd]
  unfold cmpI
  congr 1
  apply propext
  split
  · constructor <;> intro <;> omega
  · split
    · constructor <;> intro <;> omega
    · constructor <;> intro <;> omega
section
variable {lA : Option Addr} {ln lc : Nat} {sA : Option Addr} {sn sc : Nat} {qA : Option Addr} {qn qc : Nat} {L : List Int} {S : List (List Int)} {Q : List Int} {d0 s0 r0 f0 i0 k0 l0 t0 lo0 hi0 a0 x0 y0 z0 : Int} {nx tm bu bf : Int} {ldA : Option Addr} {ldn ldc : Nat} {w : World}
set_option maxRecDepth 1000000 in
set_option maxHeartbeats 8000000 in
theorem byBuffer_any (h : Shw w lA ln lc sA sn sc qA qn qc L S Q) (ok : FilmOk L S Q) (hlo : 0 ≤ lo0 ∧ lo0 < hi0 ∧ hi0 ≤ 1000000000) (hbu : 0 ≤ bu ∧ bu ≤ 2000000000000) :
    Calls Tryd.prog 33 #[shV lA ln lc sA sn sc qA qn qc, plV d0 s0 r0 f0 i0 k0 l0 t0 lo0 hi0 a0 x0 y0 z0, .agg #[.int .i64 nx, .int .i64 tm, .int .i64 bu, .slice ldA ldn ldc, .int .i64 bf]] w fun e w' => e = .returned (.int .i64 (bufC (ratesL L S) lo0 hi0 bu)) ∧ Ext w w' := by
  obtain ⟨hlo1, hlo2, hlo3⟩ := hlo
  obtain ⟨hbu1, hbu2⟩ := hbu
  have HX : Hid (Ext w (((w.alloc (.cells #[.slice lA ln lc, .slice sA sn sc, .slice qA qn qc] 25)).alloc (.cells #[.int .i64 d0, .int .i64 s0, .int .i64 r0, .int .i64 f0, .int .i64 i0, .int .i64 k0, .int .i64 l0, .int .i64 t0, .int .i64 lo0, .int .i64 hi0, .int .i64 a0, .int .i64 x0, .int .i64 y0, .int .i64 z0] 29)).alloc (.cells #[.int .i64 nx, .int .i64 tm, .int .i64 bu, .slice ldA ldn ldc, .int .i64 bf] 57))) := hide (ext_alloc (ext_alloc (Ext.alloc _ _) _) _)
  have hb1 := (Blk.new (w.alloc (.cells #[.slice lA ln lc, .slice sA sn sc, .slice qA qn qc] 25)) 29 #[.int .i64 d0, .int .i64 s0, .int .i64 r0, .int .i64 f0, .int .i64 i0, .int .i64 k0, .int .i64 l0, .int .i64 t0, .int .i64 lo0, .int .i64 hi0, .int .i64 a0, .int .i64 x0, .int .i64 y0, .int .i64 z0]).alloc (.cells #[.int .i64 nx, .int .i64 tm, .int .i64 bu, .slice ldA ldn ldc, .int .i64 bf] 57)
  have hb2 := Blk.new ((w.alloc (.cells #[.slice lA ln lc, .slice sA sn sc, .slice qA qn qc] 25)).alloc (.cells #[.int .i64 d0, .int .i64 s0, .int .i64 r0, .int .i64 f0, .int .i64 i0, .int .i64 k0, .int .i64 l0, .int .i64 t0, .int .i64 lo0, .int .i64 hi0, .int .i64 a0, .int .i64 x0, .int .i64 y0, .int .i64 z0] 29)) 57 #[.int .i64 nx, .int .i64 tm, .int .i64 bu, .slice ldA ldn ldc, .int .i64 bf]
  simp only [World.size_alloc] at hb1 hb2
  have B1 := hide hb1
  have B2 := hide hb2
  clear hb1 hb2
  have HMR := hide (fun (W : World) (hW : Ext w W) => keyMean_any (h.ext hW) ok)
  have HRB := hide (fun i (hi : i < S.length) => rates_bd ok hi)
  have HRM := hide (rates_mono ok)
  have hs0 := ok.s0
  have hs1 := ok.s1
  have HSL := hide (rates_len (L := L) (S := S))
  clear h ok
  obtain ⟨v, hv⟩ : ∃ v, v = bufC (ratesL L S) lo0 hi0 bu := ⟨_, rfl⟩
  rw [← hv]
  have HVV := hide hv
  clear hv
  go_enter Tryd.func33, Tryd.ntmps33
  go_wp2_with fail
  refine (HMR.out _ HX.out).mono ?_
  rintro e w1 ⟨A1, n1, c1, rfl, a1, e1⟩
  have HL := hide a1.len
  have hn1 : n1 = S.length := by rw [← a1.len, HSL.out]
  have hn0 : 1 ≤ n1 := by omega
  have hn2 : n1 ≤ 20 := by omega
  have P1 := hide a1
  have X1 := hide (Ext.trans HX.out e1)
  have p8 : w1.cell? ⟨w.heap.size + 1, 8, none⟩ = some (.int .i64 lo0) := (B1.out.ext e1).cell 8
  have p9 : w1.cell? ⟨w.heap.size + 1, 9, none⟩ = some (.int .i64 hi0) := (B1.out.ext e1).cell 9
  have s2 : w1.cell? ⟨w.heap.size + 1 + 1, 2, none⟩ = some (.int .i64 bu) := (B2.out.ext e1).cell 2
  generalize ratesL L S = R at *
  obtain ⟨br, orr, rfl, _⟩ := a1.addr (by omega)
  clear a1 e1 B1 B2 HMR
  have hR0 := HRB.out 0 (by omega)
  have hRl := HRB.out (n1 - 1) (by omega)
  have hRm : R.getD 0 0 ≤ R.getD (n1 - 1) 0 := by have := HRM.out 0 (n1 - 1) (by omega); rwa [Nat.zero_add] at this
  obtain ⟨m, rfl⟩ : ∃ m, n1 = m + 1 := ⟨n1 - 1, by omega⟩
  have hm20 : m ≤ 19 := by omega
  have HN1 := hide hn1
  clear hn1 hs0 hs1 hn0 hn2
  rw [Nat.add_sub_cancel] at hRl hRm
  have c0 : w1.cell? ⟨br, orr, none⟩ = some (.int .i64 (R.getD 0 0)) := P1.out.num (k := 0) (by omega)
  have cm := P1.out.num (k := m) (by omega)
  have hv : v = if bu ≤ lo0 then 0 else if hi0 ≤ bu then (m : Int) else lastF (bufB R lo0 hi0 bu) (m + 1) := by rw [HVV.out, bufC, HL.out]; congr 1; congr 1; omega
  clear HVV
  have HB : Hid (∀ i, bufB R lo0 hi0 bu i = decide ((R.getD i 0 - R.getD 0 0) * (hi0 - lo0) ≤ (R.getD m 0 - R.getD 0 0) * (bu - lo0))) := hide (fun i => by unfold bufB; rw [HL.out, Nat.add_sub_cancel])
  generalize bufB R lo0 hi0 bu = PB at *
  have w1' : IntKind.i64.wrap (((m + 1 : Nat) : Int) - 1) = (m : Int) := by rw [IntKind.wrap_i64]; omega
  by_cases q1 : bu ≤ lo0
  · rw [if_pos q1] at hv
    go_wp2
    go_ret
    exact ⟨ret_int hv.symm, X1.out⟩
  rw [if_neg q1] at hv
  by_cases q2 : hi0 ≤ bu
  · rw [if_pos q2] at hv
    go_wp2
    go_ret
    exact ⟨ret_int (by first | exact hv.symm | omega), X1.out⟩
  rw [if_neg q2] at hv
  have HVV := hide hv
  clear hv
  have u1 : IntKind.i64.wrap (R.getD m 0 - R.getD 0 0) = R.getD m 0 - R.getD 0 0 := by rw [IntKind.wrap_i64]; omega
  have u2 : IntKind.i64.wrap (bu - lo0) = bu - lo0 := by rw [IntKind.wrap_i64]; omega
  have HT := hide (fun (W : World) (_ : Ext w1 W) => times_int (x := R.getD m 0 - R.getD 0 0) (y := bu - lo0) ⟨by omega, by omega⟩ ⟨by omega, by omega⟩ W)
  generalize hr0 : R.getD 0 0 = r0' at *
  generalize hrm : R.getD m 0 = rm at *
  have HR0 := hide hr0
  have HRM0 := hide hrm
  clear hr0 hrm HSL
  generalize hTP : (rm - r0').toNat * (bu - lo0).toNat = tp at *
  have HTP := hide hTP
  clear hTP
  unfold i128 at HT
  generalize hth : ((tp / 18446744073709551616 : Nat) : Int) = th at *
  generalize htl : ((tp % 18446744073709551616 : Nat) : Int) = tl at *
  have HCM := hide (fun (x : Nat) (W : World) => compare128 x tp W)
  rw [hth, htl] at HCM
  clear hth htl
  have j1 : (0 : Int) ≤ (m : Int) := by omega
  have j2 : (m : Int) < ((m + 1 : Nat) : Int) := by omega
  have j3 : (m : Int) < (m : Int) + 1 := by omega
  have j4 : (0 : Int) < ((m + 1 : Nat) : Int) := by omega
  have j5 : (0 : Int) < (m : Int) + 1 := by omega
  go_wp2_with fail
  have EX := Ext.drew w1
  have ne0 : br ≠ w1.heap.size := by have := cell_lt c0; simp only at this; omega
  have ne1 : w.heap.size + 1 ≠ w1.heap.size := by have := cell_lt p8; simp only at this; omega
  have ne2 : w.heap.size + 1 + 1 ≠ w1.heap.size := by have := cell_lt s2; simp only at this; omega
  go_region_held3 (fun w' => w'.cell? ⟨br, orr, none⟩ = some (.int .i64 r0') ∧ w'.cell? ⟨br, orr + m, none⟩ = some (.int .i64 rm) ∧ w'.cell? ⟨w.heap.size + 1, 8, none⟩ = some (.int .i64 lo0) ∧ w'.cell? ⟨w.heap.size + 1 + 1, 2, none⟩ = some (.int .i64 bu)) (first | (exact ⟨EX.cell c0, EX.cell cm, EX.cell p8, EX.cell s2⟩) | (refine ⟨?_, ?_, ?_, ?_⟩ <;> ((repeat' (with_reducible first | refine cell_farW ?_ ne0 | refine cell_farW ?_ ne1 | refine cell_farW ?_ ne2)); (with_reducible first | exact EX.cell c0 | exact EX.cell cm | exact EX.cell p8 | exact EX.cell s2))) | (exact ⟨(show Ext w1 _ from Ext.trans EX (Ext.alloc _ _)).cell c0, (show Ext w1 _ from Ext.trans EX (Ext.alloc _ _)).cell cm, (show Ext w1 _ from Ext.trans EX (Ext.alloc _ _)).cell p8, (show Ext w1 _ from Ext.trans EX (Ext.alloc _ _)).cell s2⟩) | go_keep) (first | ((go_at_call 47; with_reducible refine (HT.out _ EX).mono ?_); rintro e w2 ⟨rfl, e2⟩; have EX := Ext.trans EX e2) | ((go_at_call 47; with_reducible refine (HT.out _ (Ext.trans (Ext.alloc _ _) (Ext.drew _))).mono ?_); rintro e w2 ⟨rfl, e2⟩; have b2 : Blk w2 w1.heap.size 97 #[.int .i64 0, .int .u64 0] := ((Blk.new w1 _ _).drew).ext e2; have bc0 : w2.cell? ⟨w1.heap.size, 0, none⟩ = some (.int .i64 0) := b2.cell 0; have bc1 : w2.cell? ⟨w1.heap.size, 1, none⟩ = some (.int .u64 0) := b2.cell 1; have bf0 := b2.frozen 0; have bf1 := b2.frozen 1; have EX := Ext.trans (Ext.trans (Ext.alloc _ _) (Ext.drew _)) e2))
  · refine gen_the fun W2 h2 => ?_
    have E2 : Hid (Ext w1 W2) := hide (by rw [h2]; exact ext_alloc EX _)
    have HB2 : Hid (Blk W2 w2.heap.size 97 #[.int .i64 th, .int .u64 tl]) := hide (by rw [h2]; exact Blk.new _ _ _)
    clear h2
    generalize w2.heap.size = p at *
    clear ne0 ne1 ne2 HT
    go_wp2_with fail
    go_loopw [9, 47] (fun ra ri wr => ∃ k : Nat, k ≤ m + 1 ∧ ri = .int .i64 k ∧ ra = .int .i64 (lastF PB k) ∧ Hid (Ext W2 wr)) (fun _ ri _ => m + 1 - (intOf ri).toNat)
    case atStart => exact ⟨0, by omega, rfl, rfl, hide (Ext.refl _)⟩
    case round =>
      obtain ⟨k, hk, rfl, rfl, HW⟩ := hrel
      have X3 := hide (Ext.trans E2.out HW.out)
      by_cases hlt : k < m + 1
      · have ck : wr.cell? ⟨br, orr + k, none⟩ = some (.int .i64 (R.getD k 0)) := X3.out.cell (P1.out.num hlt)
        have hRk := HRB.out k (by have := HN1.out; omega)
        have hRk2 : r0' ≤ R.getD k 0 := by have := HRM.out 0 k (by have := HN1.out; omega); rw [Nat.zero_add] at this; rw [← HR0.out]; exact this
        have HPK : Hid (PB k = decide ((R.getD k 0 - r0') * (hi0 - lo0) ≤ (rm - r0') * (bu - lo0))) := hide (HB.out k)
        have HNX := hide (lastF_succ PB k)
        generalize hln : lastF PB (k + 1) = nx1 at *
        have HLN := hide hln
        clear hln
        generalize lastF PB k = lk at *
        generalize R.getD k 0 = rk at *
        generalize PB k = pk at *
        have d0' : wr.cell? ⟨br, orr, none⟩ = some (.int .i64 r0') := X3.out.cell c0
        have d8 : wr.cell? ⟨w.heap.size + 1, 8, none⟩ = some (.int .i64 lo0) := X3.out.cell p8
        have d9 : wr.cell? ⟨w.heap.size + 1, 9, none⟩ = some (.int .i64 hi0) := X3.out.cell p9
        have t0' : wr.cell? ⟨p, 0, none⟩ = some (.int .i64 th) := (HB2.out.ext HW.out).cell 0
        have t1' : wr.cell? ⟨p, 1, none⟩ = some (.int .u64 tl) := (HB2.out.ext HW.out).cell 1
        have u3 : IntKind.i64.wrap (rk - r0') = rk - r0' := by rw [IntKind.wrap_i64]; omega
        have u4 : IntKind.i64.wrap (hi0 - lo0) = hi0 - lo0 := by rw [IntKind.wrap_i64]; omega
        have i1 : (0 : Int) ≤ (k : Int) := by omega
        have i2 : (k : Int) < ((m + 1 : Nat) : Int) := by omega
        have i3 : (0 : Int) < ((m + 1 : Nat) : Int) := by omega
        have HT := hide (fun (W : World) => times_int (x := rk - r0') (y := hi0 - lo0) ⟨by omega, by omega⟩ ⟨by omega, by omega⟩ W)
        have HDC : Hid (decide (cmpI (((rk - r0').toNat * (hi0 - lo0).toNat : Nat) : Int) (tp : Int) ≤ 0) = pk) := hide (by rw [HPK.out, ← HTP.out]; exact cmp_le (by omega) (by omega) (by omega) (by omega))
        have HC := hide (fun (W : World) => HCM.out ((rk - r0').toNat * (hi0 - lo0).toNat) W)
        generalize (rk - r0').toNat * (hi0 - lo0).toNat = xp at *
        unfold i128 at HT HC
        generalize ((xp / 18446744073709551616 : Nat) : Int) = xh at *
        generalize ((xp % 18446744073709551616 : Nat) : Int) = xl at *
        generalize cmpI (xp : Int) (tp : Int) = cv at *
        clear HPK HCM HR0 HRM0 HRB HRM HL HB HVV HTP c0 cm p8 p9 s2 P1
        go_wp2_with fail
        have EX := Ext.drew wr
        go_region_held3 (fun w' => w'.cell? ⟨br, orr, none⟩ = some (.int .i64 r0') ∧ w'.cell? ⟨w.heap.size + 1, 8, none⟩ = some (.int .i64 lo0) ∧ w'.cell? ⟨w.heap.size + 1, 9, none⟩ = some (.int .i64 hi0) ∧ w'.cell? ⟨p, 0, none⟩ = some (.int .i64 th) ∧ w'.cell? ⟨p, 1, none⟩ = some (.int .u64 tl)) (first | exact ⟨EX.cell d0', EX.cell d8, EX.cell d9, EX.cell t0', EX.cell t1'⟩ | go_keep) (first | ((go_at_call 47; with_reducible refine (HT.out _).mono ?_); rintro e w5 ⟨rfl, e5⟩; have EX := Ext.trans EX e5) | ((go_at_call 48; with_reducible refine (HC.out _).mono ?_); rintro e w6 ⟨rfl, e6⟩; have EX := Ext.trans EX e6))
        have X6 := hide (Ext.trans HW.out EX)
        have hdc := HDC.out
        by_cases hq : cv ≤ 0
        · have hnx : nx1 = (k : Int) := by rw [HNX.out, ← hdc, decide_eq_true hq, if_pos rfl]
          clear hdc HDC HNX EX t0' t1' d0' d8 d9 ck
          go_wp2_with fail
          go_roundw
          case rel => exact ⟨k + 1, by omega, by go_num, by rw [HLN.out, hnx], X6⟩
          case measure => simp [intOf]; omega
        · have hnx : nx1 = lk := by rw [HNX.out, ← hdc, decide_eq_false hq]; rfl
          clear hdc HDC HNX EX t0' t1' d0' d8 d9 ck
          go_wp2_with fail
          go_roundw
          case rel => exact ⟨k + 1, by omega, by go_num, by rw [HLN.out, hnx], X6⟩
          case measure => simp [intOf]; omega
      · obtain rfl : k = m + 1 := by omega
        go_wp2
        go_ret
        exact ⟨ret_int HVV.out.symm, Ext.trans X1.out X3.out⟩
  · refine gen_the fun W2 h2 => ?_
    have E2 : Hid (Ext w1 W2) := hide (by rw [h2]; exact Tw.below (o := w1.heap.size) (row := none) (((Tw.of_ext EX _ _).trans (Tw.set_ _ _ _ _ _)).trans (Tw.set_ _ _ _ _ _)) (Nat.le_refl _) (Nat.le_refl _) (fun g hg => by cases hg))
    have HB2 : Hid (Blk W2 w1.heap.size 97 #[.int .i64 th, .int .u64 tl]) := hide (by rw [h2]; exact ((b2.set_ 0 _).set_ 1 _))
    clear h2
    generalize w1.heap.size = p at *
    clear ne0 ne1 ne2 HT
    go_wp2_with fail
    go_loopw [9, 47] (fun ra ri wr => ∃ k : Nat, k ≤ m + 1 ∧ ri = .int .i64 k ∧ ra = .int .i64 (lastF PB k) ∧ Hid (Ext W2 wr)) (fun _ ri _ => m + 1 - (intOf ri).toNat)
    case atStart => exact ⟨0, by omega, rfl, rfl, hide (Ext.refl _)⟩
    case round =>
      obtain ⟨k, hk, rfl, rfl, HW⟩ := hrel
      have X3 := hide (Ext.trans E2.out HW.out)
      by_cases hlt : k < m + 1
      · have ck : wr.cell? ⟨br, orr + k, none⟩ = some (.int .i64 (R.getD k 0)) := X3.out.cell (P1.out.num hlt)
        have hRk := HRB.out k (by have := HN1.out; omega)
        have hRk2 : r0' ≤ R.getD k 0 := by have := HRM.out 0 k (by have := HN1.out; omega); rw [Nat.zero_add] at this; rw [← HR0.out]; exact this
        have HPK : Hid (PB k = decide ((R.getD k 0 - r0') * (hi0 - lo0) ≤ (rm - r0') * (bu - lo0))) := hide (HB.out k)
        have HNX := hide (lastF_succ PB k)
        generalize hln : lastF PB (k + 1) = nx1 at *
        have HLN := hide hln
        clear hln
        generalize lastF PB k = lk at *
        generalize R.getD k 0 = rk at *
        generalize PB k = pk at *
        have d0' : wr.cell? ⟨br, orr, none⟩ = some (.int .i64 r0') := X3.out.cell c0
        have d8 : wr.cell? ⟨w.heap.size + 1, 8, none⟩ = some (.int .i64 lo0) := X3.out.cell p8
        have d9 : wr.cell? ⟨w.heap.size + 1, 9, none⟩ = some (.int .i64 hi0) := X3.out.cell p9
        have t0' : wr.cell? ⟨p, 0, none⟩ = some (.int .i64 th) := (HB2.out.ext HW.out).cell 0
        have t1' : wr.cell? ⟨p, 1, none⟩ = some (.int .u64 tl) := (HB2.out.ext HW.out).cell 1
        have u3 : IntKind.i64.wrap (rk - r0') = rk - r0' := by rw [IntKind.wrap_i64]; omega
        have u4 : IntKind.i64.wrap (hi0 - lo0) = hi0 - lo0 := by rw [IntKind.wrap_i64]; omega
        have i1 : (0 : Int) ≤ (k : Int) := by omega
        have i2 : (k : Int) < ((m + 1 : Nat) : Int) := by omega
        have i3 : (0 : Int) < ((m + 1 : Nat) : Int) := by omega
        have HT := hide (fun (W : World) => times_int (x := rk - r0') (y := hi0 - lo0) ⟨by omega, by omega⟩ ⟨by omega, by omega⟩ W)
        have HDC : Hid (decide (cmpI (((rk - r0').toNat * (hi0 - lo0).toNat : Nat) : Int) (tp : Int) ≤ 0) = pk) := hide (by rw [HPK.out, ← HTP.out]; exact cmp_le (by omega) (by omega) (by omega) (by omega))
        have HC := hide (fun (W : World) => HCM.out ((rk - r0').toNat * (hi0 - lo0).toNat) W)
        generalize (rk - r0').toNat * (hi0 - lo0).toNat = xp at *
        unfold i128 at HT HC
        generalize ((xp / 18446744073709551616 : Nat) : Int) = xh at *
        generalize ((xp % 18446744073709551616 : Nat) : Int) = xl at *
        generalize cmpI (xp : Int) (tp : Int) = cv at *
        clear HPK HCM HR0 HRM0 HRB HRM HL HB HVV HTP c0 cm p8 p9 s2 P1
        go_wp2_with fail
        have EX := Ext.drew wr
        go_region_held3 (fun w' => w'.cell? ⟨br, orr, none⟩ = some (.int .i64 r0') ∧ w'.cell? ⟨w.heap.size + 1, 8, none⟩ = some (.int .i64 lo0) ∧ w'.cell? ⟨w.heap.size + 1, 9, none⟩ = some (.int .i64 hi0) ∧ w'.cell? ⟨p, 0, none⟩ = some (.int .i64 th) ∧ w'.cell? ⟨p, 1, none⟩ = some (.int .u64 tl)) (first | exact ⟨EX.cell d0', EX.cell d8, EX.cell d9, EX.cell t0', EX.cell t1'⟩ | go_keep) (first | ((go_at_call 47; with_reducible refine (HT.out _).mono ?_); rintro e w5 ⟨rfl, e5⟩; have EX := Ext.trans EX e5) | ((go_at_call 48; with_reducible refine (HC.out _).mono ?_); rintro e w6 ⟨rfl, e6⟩; have EX := Ext.trans EX e6))
        have X6 := hide (Ext.trans HW.out EX)
        have hdc := HDC.out
        by_cases hq : cv ≤ 0
        · have hnx : nx1 = (k : Int) := by rw [HNX.out, ← hdc, decide_eq_true hq, if_pos rfl]
          clear hdc HDC HNX EX t0' t1' d0' d8 d9 ck
          go_wp2_with fail
          go_roundw
          case rel => exact ⟨k + 1, by omega, by go_num, by rw [HLN.out, hnx], X6⟩
          case measure => simp [intOf]; omega
        · have hnx : nx1 = lk := by rw [HNX.out, ← hdc, decide_eq_false hq]; rfl
          clear hdc HDC HNX EX t0' t1' d0' d8 d9 ck
          go_wp2_with fail
          go_roundw
          case rel => exact ⟨k + 1, by omega, by go_num, by rw [HLN.out, hnx], X6⟩
          case measure => simp [intOf]; omega
      · obtain rfl : k = m + 1 := by omega
        go_wp2
        go_ret
        exact ⟨ret_int HVV.out.symm, Ext.trans X1.out X3.out⟩
end
end Go.Proofs.YtfelgolfebhmkaaDoor
