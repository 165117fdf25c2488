/- Walks: byLook and choose give a rendition. Conditions as stated. -/
import Derived.Test.YtajadgpkmommmaaBufQZ
import Derived.Test.YtajadgpkmommmaaFilmB
import Derived.Test.YtajadgpkmommmaaRunB
import Derived.Test.YtajadgpkmommmaaBase
namespace Go.Proofs.Ytajadgpkmommmaa
open Go.RowKit
theorem times_int {x y : Int} (hx : 0 ≤ x ∧ x < 9223372036854775808) (hy : 0 ≤ y ∧ y < 9223372036854775808) (w : World) : Calls Try.prog 57 #[.int .i64 x, .int .i64 y] w fun e w' => e = .returned (i128 (x.toNat * y.toNat)) ∧ Ext w w' := by
  have h := times_any x.toNat y.toNat (by omega) (by omega) w
  rw [Int.toNat_of_nonneg hx.1, Int.toNat_of_nonneg hy.1] at h
  exact h
theorem cell_farW {w : World} {b o : Nat} {v u : Value} {b2 o2 : Nat} (h : w.cell? ⟨b, o, none⟩ = some v) (hp : b ≠ b2) : (w.setCell ⟨b2, o2, none⟩ u).cell? ⟨b, o, none⟩ = some v := by
  have h4 := Below.heap_setCell w ⟨b2, o2, none⟩ u b hp
  unfold World.cell? at h ⊢
  simp only at h ⊢
  rw [h4]
  exact h
theorem compare128 (x y : Nat) (w : World) : Calls Try.prog 58 #[i128 x, .agg #[.int .i64 ((y / 18446744073709551616 : Nat) : Int), .int .u64 ((y % 18446744073709551616 : Nat) : Int)]] w fun e w' => e = .returned (.int .i64 (cmpI (x : Int) (y : Int))) ∧ Ext w w' := by
  have h := compare_any ((x / 18446744073709551616 : Nat) : Int) ((x % 18446744073709551616 : Nat) : Int) ((y / 18446744073709551616 : Nat) : Int) ((y % 18446744073709551616 : Nat) : Int) w
  rw [cmp128] at h
  exact h
theorem cmp_le {a b c d : Int} (ha : 0 ≤ a) (hb : 0 ≤ b) (hc : 0 ≤ c) (hd : 0 ≤ d) : decide (cmpI ((a.toNat * b.toNat : Nat) : Int) ((c.toNat * d.toNat : Nat) : Int) ≤ 0) = decide (a * b ≤ c * d) := by
  rw [Int.natCast_mul, Int.natCast_mul, Int.toNat_of_nonneg ha, Int.toNat_of_nonneg hb, Int.toNat_of_nonneg hc, Int.toNat_of_nonneg hd]
  unfold cmpI
  congr 1
  apply propext
  split
  · constructor <;> intro <;> omega
  · split
    · constructor <;> intro <;> omega
    · constructor <;> intro <;> omega
section
variable {lA : Option Addr} {ln lc : Nat} {sA : Option Addr} {sn sc : Nat} {qA : Option Addr} {qn qc : Nat} {L : List Int} {S : List (List Int)} {Q : List Int} {d0 s0 r0 f0 i0 k0 l0 t0 lo0 hi0 a0 x0 y0 z0 : Int} {nx tm bu bf : Int} {ldA : Option Addr} {ldn ldc : Nat} {w : World}
set_option maxRecDepth 1000000 in
set_option maxHeartbeats 8000000 in
theorem byBuffer_any (h : Shw w lA ln lc sA sn sc qA qn qc L S Q) (ok : FilmOk L S Q) (hlo : 0 ≤ lo0 ∧ lo0 < hi0 ∧ hi0 ≤ 1000000000) (hbu : 0 ≤ bu ∧ bu ≤ 2000000000000) :
    Calls Try.prog 43 #[shV lA ln lc sA sn sc qA qn qc, plV d0 s0 r0 f0 i0 k0 l0 t0 lo0 hi0 a0 x0 y0 z0, .agg #[.int .i64 nx, .int .i64 tm, .int .i64 bu, .slice ldA ldn ldc, .int .i64 bf]] w fun e w' => e = .returned (.int .i64 (bufC (ratesL L S) lo0 hi0 bu)) ∧ Ext w w' := by
  obtain ⟨hlo1, hlo2, hlo3⟩ := hlo
  obtain ⟨hbu1, hbu2⟩ := hbu
  have HX : Hid (Ext w (((w.alloc (.cells #[.slice lA ln lc, .slice sA sn sc, .slice qA qn qc] 25)).alloc (.cells #[.int .i64 d0, .int .i64 s0, .int .i64 r0, .int .i64 f0, .int .i64 i0, .int .i64 k0, .int .i64 l0, .int .i64 t0, .int .i64 lo0, .int .i64 hi0, .int .i64 a0, .int .i64 x0, .int .i64 y0, .int .i64 z0] 30)).alloc (.cells #[.int .i64 nx, .int .i64 tm, .int .i64 bu, .slice ldA ldn ldc, .int .i64 bf] 56))) := hide (ext_alloc (ext_alloc (Ext.alloc _ _) _) _)
  have hb1 := (Blk.new (w.alloc (.cells #[.slice lA ln lc, .slice sA sn sc, .slice qA qn qc] 25)) 30 #[.int .i64 d0, .int .i64 s0, .int .i64 r0, .int .i64 f0, .int .i64 i0, .int .i64 k0, .int .i64 l0, .int .i64 t0, .int .i64 lo0, .int .i64 hi0, .int .i64 a0, .int .i64 x0, .int .i64 y0, .int .i64 z0]).alloc (.cells #[.int .i64 nx, .int .i64 tm, .int .i64 bu, .slice ldA ldn ldc, .int .i64 bf] 56)
  have hb2 := Blk.new ((w.alloc (.cells #[.slice lA ln lc, .slice sA sn sc, .slice qA qn qc] 25)).alloc (.cells #[.int .i64 d0, .int .i64 s0, .int .i64 r0, .int .i64 f0, .int .i64 i0, .int .i64 k0, .int .i64 l0, .int .i64 t0, .int .i64 lo0, .int .i64 hi0, .int .i64 a0, .int .i64 x0, .int .i64 y0, .int .i64 z0] 30)) 56 #[.int .i64 nx, .int .i64 tm, .int .i64 bu, .slice ldA ldn ldc, .int .i64 bf]
  simp only [World.size_alloc] at hb1 hb2
  have B1 := hide hb1
  have B2 := hide hb2
  clear hb1 hb2
  have HMR := hide (fun (W : World) (hW : Ext w W) => keyMean_any (h.ext hW) ok)
  have HRB := hide (fun i (hi : i < S.length) => rates_bd ok hi)
  have HRM := hide (rates_mono ok)
  have hs0 := ok.s0
  have hs1 := ok.s1
  have HSL := hide (rates_len (L := L) (S := S))
  clear h ok
  obtain ⟨v, hv⟩ : ∃ v, v = bufC (ratesL L S) lo0 hi0 bu := ⟨_, rfl⟩
  rw [← hv]
  have HVV := hide hv
  clear hv
  go_enter Try.func43, Try.ntmps43
  go_wp2_with fail
  refine (HMR.out _ HX.out).mono ?_
  rintro e w1 ⟨A1, n1, c1, rfl, a1, e1⟩
  have HL := hide a1.len
  have hn1 : n1 = S.length := by rw [← a1.len, HSL.out]
  have hn0 : 1 ≤ n1 := by omega
  have hn2 : n1 ≤ 20 := by omega
  have P1 := hide a1
  have X1 := hide (Ext.trans HX.out e1)
  have p8 : w1.cell? ⟨w.heap.size + 1, 8, none⟩ = some (.int .i64 lo0) := (B1.out.ext e1).cell 8
  have p9 : w1.cell? ⟨w.heap.size + 1, 9, none⟩ = some (.int .i64 hi0) := (B1.out.ext e1).cell 9
  have s2 : w1.cell? ⟨w.heap.size + 1 + 1, 2, none⟩ = some (.int .i64 bu) := (B2.out.ext e1).cell 2
  generalize ratesL L S = R at *
  obtain ⟨br, orr, rfl, _⟩ := a1.addr (by omega)
  clear a1 e1 B1 B2 HMR
  have hR0 := HRB.out 0 (by omega)
  have hRl := HRB.out (n1 - 1) (by omega)
  have hRm : R.getD 0 0 ≤ R.getD (n1 - 1) 0 := by have := HRM.out 0 (n1 - 1) (by omega); rwa [Nat.zero_add] at this
  obtain ⟨m, rfl⟩ : ∃ m, n1 = m + 1 := ⟨n1 - 1, by omega⟩
  have hm20 : m ≤ 19 := by omega
  have HN1 := hide hn1
  clear hn1 hs0 hs1 hn0 hn2
  rw [Nat.add_sub_cancel] at hRl hRm
  have c0 : w1.cell? ⟨br, orr, none⟩ = some (.int .i64 (R.getD 0 0)) := P1.out.num (k := 0) (by omega)
  have cm := P1.out.num (k := m) (by omega)
  have hv : v = if bu ≤ lo0 then 0 else if hi0 ≤ bu then (m : Int) else lastF (bufB R lo0 hi0 bu) (m + 1) := by rw [HVV.out, bufC, HL.out]; congr 1; congr 1; omega
  clear HVV
  have HB : Hid (∀ i, bufB R lo0 hi0 bu i = decide ((R.getD i 0 - R.getD 0 0) * (hi0 - lo0) ≤ (R.getD m 0 - R.getD 0 0) * (bu - lo0))) := hide (fun i => by unfold bufB; rw [HL.out, Nat.add_sub_cancel])
  generalize bufB R lo0 hi0 bu = PB at *
  have w1' : IntKind.i64.wrap (((m + 1 : Nat) : Int) - 1) = (m : Int) := by rw [IntKind.wrap_i64]; omega
  by_cases q1 : bu ≤ lo0
  · rw [if_pos q1] at hv
    go_wp2
    go_ret
    exact ⟨ret_int hv.symm, X1.out⟩
  rw [if_neg q1] at hv
  by_cases q2 : hi0 ≤ bu
  · rw [if_pos q2] at hv
    go_wp2
    go_ret
    exact ⟨ret_int (by first | exact hv.symm | omega), X1.out⟩
  rw [if_neg q2] at hv
  have HVV := hide hv
  clear hv
  have u1 : IntKind.i64.wrap (R.getD m 0 - R.getD 0 0) = R.getD m 0 - R.getD 0 0 := by rw [IntKind.wrap_i64]; omega
  have u2 : IntKind.i64.wrap (bu - lo0) = bu - lo0 := by rw [IntKind.wrap_i64]; omega
  have HT := hide (fun (W : World) (_ : Ext w1 W) => times_int (x := R.getD m 0 - R.getD 0 0) (y := bu - lo0) ⟨by omega, by omega⟩ ⟨by omega, by omega⟩ W)
  generalize hr0 : R.getD 0 0 = r0' at *
  generalize hrm : R.getD m 0 = rm at *
  have HR0 := hide hr0
  have HRM0 := hide hrm
  clear hr0 hrm HSL
  generalize hTP : (rm - r0').toNat * (bu - lo0).toNat = tp at *
  have HTP := hide hTP
  clear hTP
  unfold i128 at HT
  generalize hth : ((tp / 18446744073709551616 : Nat) : Int) = th at *
  generalize htl : ((tp % 18446744073709551616 : Nat) : Int) = tl at *
  have HCM := hide (fun (x : Nat) (W : World) => compare128 x tp W)
  rw [hth, htl] at HCM
  clear hth htl
  have j1 : (0 : Int) ≤ (m : Int) := by omega
  have j2 : (m : Int) < ((m + 1 : Nat) : Int) := by omega
  have j3 : (m : Int) < (m : Int) + 1 := by omega
  have j4 : (0 : Int) < ((m + 1 : Nat) : Int) := by omega
  have j5 : (0 : Int) < (m : Int) + 1 := by omega
  go_wp2_with fail
  have EX := Ext.drew w1
  have ne0 : br ≠ w1.heap.size := by have := cell_lt c0; simp only at this; omega
  have ne1 : w.heap.size + 1 ≠ w1.heap.size := by have := cell_lt p8; simp only at this; omega
  have ne2 : w.heap.size + 1 + 1 ≠ w1.heap.size := by have := cell_lt s2; simp only at this; omega
  go_region_held3 (fun w' => w'.cell? ⟨br, orr, none⟩ = some (.int .i64 r0') ∧ w'.cell? ⟨br, orr + m, none⟩ = some (.int .i64 rm) ∧ w'.cell? ⟨w.heap.size + 1, 8, none⟩ = some (.int .i64 lo0) ∧ w'.cell? ⟨w.heap.size + 1 + 1, 2, none⟩ = some (.int .i64 bu)) (first | (exact ⟨EX.cell c0, EX.cell cm, EX.cell p8, EX.cell s2⟩) | (refine ⟨?_, ?_, ?_, ?_⟩ <;> ((repeat' (with_reducible first | refine cell_farW ?_ ne0 | refine cell_farW ?_ ne1 | refine cell_farW ?_ ne2)); (with_reducible first | exact EX.cell c0 | exact EX.cell cm | exact EX.cell p8 | exact EX.cell s2))) | (exact ⟨(show Ext w1 _ from Ext.trans EX (Ext.alloc _ _)).cell c0, (show Ext w1 _ from Ext.trans EX (Ext.alloc _ _)).cell cm, (show Ext w1 _ from Ext.trans EX (Ext.alloc _ _)).cell p8, (show Ext w1 _ from Ext.trans EX (Ext.alloc _ _)).cell s2⟩) | go_keep) (first | ((go_at_call 57; with_reducible refine (HT.out _ EX).mono ?_); rintro e w2 ⟨rfl, e2⟩; have EX := Ext.trans EX e2) | ((go_at_call 57; with_reducible refine (HT.out _ (Ext.trans (Ext.alloc _ _) (Ext.drew _))).mono ?_); rintro e w2 ⟨rfl, e2⟩; have b2 : Blk w2 w1.heap.size 96 #[.int .i64 0, .int .u64 0] := ((Blk.new w1 _ _).drew).ext e2; have bc0 : w2.cell? ⟨w1.heap.size, 0, none⟩ = some (.int .i64 0) := b2.cell 0; have bc1 : w2.cell? ⟨w1.heap.size, 1, none⟩ = some (.int .u64 0) := b2.cell 1; have bf0 := b2.frozen 0; have bf1 := b2.frozen 1; have EX := Ext.trans (Ext.trans (Ext.alloc _ _) (Ext.drew _)) e2))
  · refine gen_the fun W2 h2 => ?_
    have E2 : Hid (Ext w1 W2) := hide (by rw [h2]; exact ext_alloc EX _)
    have HB2 : Hid (Blk W2 w2.heap.size 96 #[.int .i64 th, .int .u64 tl]) := hide (by rw [h2]; exact Blk.new _ _ _)
    clear h2
    generalize w2.heap.size = p at *
    clear ne0 ne1 ne2 HT
    go_wp2_with fail
    go_loopw [9, 47] (fun ra ri wr => ∃ k : Nat, k ≤ m + 1 ∧ ri = .int .i64 k ∧ ra = .int .i64 (lastF PB k) ∧ Hid (Ext W2 wr)) (fun _ ri _ => m + 1 - (intOf ri).toNat)
    case atStart => exact ⟨0, by omega, rfl, rfl, hide (Ext.refl _)⟩
    case round =>
      obtain ⟨k, hk, rfl, rfl, HW⟩ := hrel
      have X3 := hide (Ext.trans E2.out HW.out)
      by_cases hlt : k < m + 1
      · have ck : wr.cell? ⟨br, orr + k, none⟩ = some (.int .i64 (R.getD k 0)) := X3.out.cell (P1.out.num hlt)
        have hRk := HRB.out k (by have := HN1.out; omega)
        have hRk2 : r0' ≤ R.getD k 0 := by have := HRM.out 0 k (by have := HN1.out; omega); rw [Nat.zero_add] at this; rw [← HR0.out]; exact this
        have HPK : Hid (PB k = decide ((R.getD k 0 - r0') * (hi0 - lo0) ≤ (rm - r0') * (bu - lo0))) := hide (HB.out k)
        have HNX := hide (lastF_succ PB k)
        generalize hln : lastF PB (k + 1) = nx1 at *
        have HLN := hide hln
        clear hln
        generalize lastF PB k = lk at *
        generalize R.getD k 0 = rk at *
        generalize PB k = pk at *
        have d0' : wr.cell? ⟨br, orr, none⟩ = some (.int .i64 r0') := X3.out.cell c0
        have d8 : wr.cell? ⟨w.heap.size + 1, 8, none⟩ = some (.int .i64 lo0) := X3.out.cell p8
        have d9 : wr.cell? ⟨w.heap.size + 1, 9, none⟩ = some (.int .i64 hi0) := X3.out.cell p9
        have t0' : wr.cell? ⟨p, 0, none⟩ = some (.int .i64 th) := (HB2.out.ext HW.out).cell 0
        have t1' : wr.cell? ⟨p, 1, none⟩ = some (.int .u64 tl) := (HB2.out.ext HW.out).cell 1
        have u3 : IntKind.i64.wrap (rk - r0') = rk - r0' := by rw [IntKind.wrap_i64]; omega
        have u4 : IntKind.i64.wrap (hi0 - lo0) = hi0 - lo0 := by rw [IntKind.wrap_i64]; omega
        have i1 : (0 : Int) ≤ (k : Int) := by omega
        have i2 : (k : Int) < ((m + 1 : Nat) : Int) := by omega
        have i3 : (0 : Int) < ((m + 1 : Nat) : Int) := by omega
        have HT := hide (fun (W : World) => times_int (x := rk - r0') (y := hi0 - lo0) ⟨by omega, by omega⟩ ⟨by omega, by omega⟩ W)
        have HDC : Hid (decide (cmpI (((rk - r0').toNat * (hi0 - lo0).toNat : Nat) : Int) (tp : Int) ≤ 0) = pk) := hide (by rw [HPK.out, ← HTP.out]; exact cmp_le (by omega) (by omega) (by omega) (by omega))
        have HC := hide (fun (W : World) => HCM.out ((rk - r0').toNat * (hi0 - lo0).toNat) W)
        generalize (rk - r0').toNat * (hi0 - lo0).toNat = xp at *
        unfold i128 at HT HC
        generalize ((xp / 18446744073709551616 : Nat) : Int) = xh at *
        generalize ((xp % 18446744073709551616 : Nat) : Int) = xl at *
        generalize cmpI (xp : Int) (tp : Int) = cv at *
        clear HPK HCM HR0 HRM0 HRB HRM HL HB HVV HTP c0 cm p8 p9 s2 P1
        go_wp2_with fail
        have EX := Ext.drew wr
        go_region_held3 (fun w' => w'.cell? ⟨br, orr, none⟩ = some (.int .i64 r0') ∧ w'.cell? ⟨w.heap.size + 1, 8, none⟩ = some (.int .i64 lo0) ∧ w'.cell? ⟨w.heap.size + 1, 9, none⟩ = some (.int .i64 hi0) ∧ w'.cell? ⟨p, 0, none⟩ = some (.int .i64 th) ∧ w'.cell? ⟨p, 1, none⟩ = some (.int .u64 tl)) (first | exact ⟨EX.cell d0', EX.cell d8, EX.cell d9, EX.cell t0', EX.cell t1'⟩ | go_keep) (first | ((go_at_call 57; with_reducible refine (HT.out _).mono ?_); rintro e w5 ⟨rfl, e5⟩; have EX := Ext.trans EX e5) | ((go_at_call 58; with_reducible refine (HC.out _).mono ?_); rintro e w6 ⟨rfl, e6⟩; have EX := Ext.trans EX e6))
        have X6 := hide (Ext.trans HW.out EX)
        have hdc := HDC.out
        by_cases hq : cv ≤ 0
        · have hnx : nx1 = (k : Int) := by rw [HNX.out, ← hdc, decide_eq_true hq, if_pos rfl]
          clear hdc HDC HNX EX t0' t1' d0' d8 d9 ck
          go_wp2_with fail
          go_roundw
          case rel => exact ⟨k + 1, by omega, by go_num, by rw [HLN.out, hnx], X6⟩
          case measure => simp [intOf]; omega
        · have hnx : nx1 = lk := by rw [HNX.out, ← hdc, decide_eq_false hq]; rfl
          clear hdc HDC HNX EX t0' t1' d0' d8 d9 ck
          go_wp2_with fail
          go_roundw
          case rel => exact ⟨k + 1, by omega, by go_num, by rw [HLN.out, hnx], X6⟩
          case measure => simp [intOf]; omega
      · obtain rfl : k = m + 1 := by omega
        go_wp2
        go_ret
        exact ⟨ret_int HVV.out.symm, Ext.trans X1.out X3.out⟩
  · refine gen_the fun W2 h2 => ?_
    have E2 : Hid (Ext w1 W2) := hide (by rw [h2]; exact Tw.below (o := w1.heap.size) (row := none) (((Tw.of_ext EX _ _).trans (Tw.set_ _ _ _ _ _)).trans (Tw.set_ _ _ _ _ _)) (Nat.le_refl _) (Nat.le_refl _) (fun g hg => by cases hg))
    have HB2 : Hid (Blk W2 w1.heap.size 96 #[.int .i64 th, .int .u64 tl]) := hide (by rw [h2]; exact ((b2.set_ 0 _).set_ 1 _))
    clear h2
    generalize w1.heap.size = p at *
    clear ne0 ne1 ne2 HT
    go_wp2_with fail
    go_loopw [9, 47] (fun ra ri wr => ∃ k : Nat, k ≤ m + 1 ∧ ri = .int .i64 k ∧ ra = .int .i64 (lastF PB k) ∧ Hid (Ext W2 wr)) (fun _ ri _ => m + 1 - (intOf ri).toNat)
    case atStart => exact ⟨0, by omega, rfl, rfl, hide (Ext.refl _)⟩
    case round =>
      obtain ⟨k, hk, rfl, rfl, HW⟩ := hrel
      have X3 := hide (Ext.trans E2.out HW.out)
      by_cases hlt : k < m + 1
      · have ck : wr.cell? ⟨br, orr + k, none⟩ = some (.int .i64 (R.getD k 0)) := X3.out.cell (P1.out.num hlt)
        have hRk := HRB.out k (by have := HN1.out; omega)
        have hRk2 : r0' ≤ R.getD k 0 := by have := HRM.out 0 k (by have := HN1.out; omega); rw [Nat.zero_add] at this; rw [← HR0.out]; exact this
        have HPK : Hid (PB k = decide ((R.getD k 0 - r0') * (hi0 - lo0) ≤ (rm - r0') * (bu - lo0))) := hide (HB.out k)
        have HNX := hide (lastF_succ PB k)
        generalize hln : lastF PB (k + 1) = nx1 at *
        have HLN := hide hln
        clear hln
        generalize lastF PB k = lk at *
        generalize R.getD k 0 = rk at *
        generalize PB k = pk at *
        have d0' : wr.cell? ⟨br, orr, none⟩ = some (.int .i64 r0') := X3.out.cell c0
        have d8 : wr.cell? ⟨w.heap.size + 1, 8, none⟩ = some (.int .i64 lo0) := X3.out.cell p8
        have d9 : wr.cell? ⟨w.heap.size + 1, 9, none⟩ = some (.int .i64 hi0) := X3.out.cell p9
        have t0' : wr.cell? ⟨p, 0, none⟩ = some (.int .i64 th) := (HB2.out.ext HW.out).cell 0
        have t1' : wr.cell? ⟨p, 1, none⟩ = some (.int .u64 tl) := (HB2.out.ext HW.out).cell 1
        have u3 : IntKind.i64.wrap (rk - r0') = rk - r0' := by rw [IntKind.wrap_i64]; omega
        have u4 : IntKind.i64.wrap (hi0 - lo0) = hi0 - lo0 := by rw [IntKind.wrap_i64]; omega
        have i1 : (0 : Int) ≤ (k : Int) := by omega
        have i2 : (k : Int) < ((m + 1 : Nat) : Int) := by omega
        have i3 : (0 : Int) < ((m + 1 : Nat) : Int) := by omega
        have HT := hide (fun (W : World) => times_int (x := rk - r0') (y := hi0 - lo0) ⟨by omega, by omega⟩ ⟨by omega, by omega⟩ W)
        have HDC : Hid (decide (cmpI (((rk - r0').toNat * (hi0 - lo0).toNat : Nat) : Int) (tp : Int) ≤ 0) = pk) := hide (by rw [HPK.out, ← HTP.out]; exact cmp_le (by omega) (by omega) (by omega) (by omega))
        have HC := hide (fun (W : World) => HCM.out ((rk - r0').toNat * (hi0 - lo0).toNat) W)
        generalize (rk - r0').toNat * (hi0 - lo0).toNat = xp at *
        unfold i128 at HT HC
        generalize ((xp / 18446744073709551616 : Nat) : Int) = xh at *
        generalize ((xp % 18446744073709551616 : Nat) : Int) = xl at *
        generalize cmpI (xp : Int) (tp : Int) = cv at *
        clear HPK HCM HR0 HRM0 HRB HRM HL HB HVV HTP c0 cm p8 p9 s2 P1
        go_wp2_with fail
        have EX := Ext.drew wr
        go_region_held3 (fun w' => w'.cell? ⟨br, orr, none⟩ = some (.int .i64 r0') ∧ w'.cell? ⟨w.heap.size + 1, 8, none⟩ = some (.int .i64 lo0) ∧ w'.cell? ⟨w.heap.size + 1, 9, none⟩ = some (.int .i64 hi0) ∧ w'.cell? ⟨p, 0, none⟩ = some (.int .i64 th) ∧ w'.cell? ⟨p, 1, none⟩ = some (.int .u64 tl)) (first | exact ⟨EX.cell d0', EX.cell d8, EX.cell d9, EX.cell t0', EX.cell t1'⟩ | go_keep) (first | ((go_at_call 57; with_reducible refine (HT.out _).mono ?_); rintro e w5 ⟨rfl, e5⟩; have EX := Ext.trans EX e5) | ((go_at_call 58; with_reducible refine (HC.out _).mono ?_); rintro e w6 ⟨rfl, e6⟩; have EX := Ext.trans EX e6))
        have X6 := hide (Ext.trans HW.out EX)
        have hdc := HDC.out
        by_cases hq : cv ≤ 0
        · have hnx : nx1 = (k : Int) := by rw [HNX.out, ← hdc, decide_eq_true hq, if_pos rfl]
          clear hdc HDC HNX EX t0' t1' d0' d8 d9 ck
          go_wp2_with fail
          go_roundw
          case rel => exact ⟨k + 1, by omega, by go_num, by rw [HLN.out, hnx], X6⟩
          case measure => simp [intOf]; omega
        · have hnx : nx1 = lk := by rw [HNX.out, ← hdc, decide_eq_false hq]; rfl
          clear hdc HDC HNX EX t0' t1' d0' d8 d9 ck
          go_wp2_with fail
          go_roundw
          case rel => exact ⟨k + 1, by omega, by go_num, by rw [HLN.out, hnx], X6⟩
          case measure => simp [intOf]; omega
      · obtain rfl : k = m + 1 := by omega
        go_wp2
        go_ret
        exact ⟨ret_int HVV.out.symm, Ext.trans X1.out X3.out⟩
end
end Go.Proofs.Ytajadgpkmommmaa
namespace Go.Proofs.Ytajadgpkmommmaa
open Go.RowKit
/-- A load is right. -/
def okH (x : Int × Int) : Bool := decide (0 ≤ x.1 ∧ x.1 ≤ 1000000000 ∧ 0 ≤ x.2 ∧ x.2 ≤ 2000000000000)
/-- The fault of loads. -/
def hauF (l : List (Int × Int)) : Int := if 200 < l.length then 2 else if l.all okH = true then 0 else 1
theorem all_get {l : List (Int × Int)} (h : ∀ j, j < l.length → okH (l.getD j (0, 0)) = true) : l.all okH = true := by
  rw [List.all_eq_true]
  intro x hx
  obtain ⟨i, hi, rfl⟩ := List.mem_iff_getElem.1 hx
  have := h i hi
  rwa [show l.getD i (0, 0) = l[i] by simp [List.getD, hi]] at this
theorem not_all {l : List (Int × Int)} {j : Nat} (hj : j < l.length) (h : okH (l.getD j (0, 0)) = false) : l.all okH = false := by
  rw [List.all_eq_false]
  refine ⟨l[j], List.getElem_mem _, ?_⟩
  rw [show l.getD j (0, 0) = l[j] by simp [List.getD, hj]] at h
  simp [h]
section
variable {lA : Option Addr} {ln lc : Nat} {sA : Option Addr} {sn sc : Nat} {qA : Option Addr} {qn qc : Nat} {L : List Int} {S : List (List Int)} {Q : List Int} {d0 s0 r0 f0 i0 k0 l0 t0 lo0 hi0 a0 x0 y0 z0 : Int} {nx tm bu bf : Int} {ldA : Option Addr} {ldn ldc : Nat} {w : World} {LD : List (Int × Int)}
set_option maxRecDepth 1000000 in
set_option maxHeartbeats 8000000 in
theorem chooseB_any (h : Shw w lA ln lc sA sn sc qA qn qc L S Q) (ok : FilmOk L S Q) (hk : k0 = 3) (hlo : 0 ≤ lo0 ∧ lo0 < hi0 ∧ hi0 ≤ 1000000000) (hbu : 0 ≤ bu ∧ bu ≤ 2000000000000) :
    Calls Try.prog 21 #[shV lA ln lc sA sn sc qA qn qc, plV d0 s0 r0 f0 i0 k0 l0 t0 lo0 hi0 a0 x0 y0 z0, .agg #[.int .i64 nx, .int .i64 tm, .int .i64 bu, .slice ldA ldn ldc, .int .i64 bf]] w fun e w' => e = .returned (.int .i64 (bufC (ratesL L S) lo0 hi0 bu)) ∧ Ext w w' := by
  have q2' : (k0 == 2) = false := by rw [hk]; rfl
  have q3' : (k0 == 3) = true := by rw [hk]; rfl
  clear hk
  have HB := hide (fun (W : World) (hW : Ext w W) => byBuffer_any (d0 := d0) (s0 := s0) (r0 := r0) (f0 := f0) (i0 := i0) (k0 := k0) (l0 := l0) (t0 := t0) (lo0 := lo0) (hi0 := hi0) (a0 := a0) (x0 := x0) (y0 := y0) (z0 := z0) (nx := nx) (tm := tm) (bu := bu) (bf := bf) (ldA := ldA) (ldn := ldn) (ldc := ldc) (h.ext hW) ok hlo hbu)
  generalize bufC (ratesL L S) lo0 hi0 bu = v at *
  clear h ok hlo hbu
  have HX : Hid (Ext w (((w.alloc (.cells #[.slice lA ln lc, .slice sA sn sc, .slice qA qn qc] 25)).alloc (.cells #[.int .i64 d0, .int .i64 s0, .int .i64 r0, .int .i64 f0, .int .i64 i0, .int .i64 k0, .int .i64 l0, .int .i64 t0, .int .i64 lo0, .int .i64 hi0, .int .i64 a0, .int .i64 x0, .int .i64 y0, .int .i64 z0] 30)).alloc (.cells #[.int .i64 nx, .int .i64 tm, .int .i64 bu, .slice ldA ldn ldc, .int .i64 bf] 56))) := hide (ext_alloc (ext_alloc (Ext.alloc _ _) _) _)
  have hb0 := ((Blk.new w 25 #[.slice lA ln lc, .slice sA sn sc, .slice qA qn qc]).alloc (.cells #[.int .i64 d0, .int .i64 s0, .int .i64 r0, .int .i64 f0, .int .i64 i0, .int .i64 k0, .int .i64 l0, .int .i64 t0, .int .i64 lo0, .int .i64 hi0, .int .i64 a0, .int .i64 x0, .int .i64 y0, .int .i64 z0] 30)).alloc (.cells #[.int .i64 nx, .int .i64 tm, .int .i64 bu, .slice ldA ldn ldc, .int .i64 bf] 56)
  have hb1 := (Blk.new (w.alloc (.cells #[.slice lA ln lc, .slice sA sn sc, .slice qA qn qc] 25)) 30 #[.int .i64 d0, .int .i64 s0, .int .i64 r0, .int .i64 f0, .int .i64 i0, .int .i64 k0, .int .i64 l0, .int .i64 t0, .int .i64 lo0, .int .i64 hi0, .int .i64 a0, .int .i64 x0, .int .i64 y0, .int .i64 z0]).alloc (.cells #[.int .i64 nx, .int .i64 tm, .int .i64 bu, .slice ldA ldn ldc, .int .i64 bf] 56)
  have hb2 := Blk.new ((w.alloc (.cells #[.slice lA ln lc, .slice sA sn sc, .slice qA qn qc] 25)).alloc (.cells #[.int .i64 d0, .int .i64 s0, .int .i64 r0, .int .i64 f0, .int .i64 i0, .int .i64 k0, .int .i64 l0, .int .i64 t0, .int .i64 lo0, .int .i64 hi0, .int .i64 a0, .int .i64 x0, .int .i64 y0, .int .i64 z0] 30)) 56 #[.int .i64 nx, .int .i64 tm, .int .i64 bu, .slice ldA ldn ldc, .int .i64 bf]
  simp only [World.size_alloc] at hb1 hb2
  have B0 := hide hb0
  have B1 := hide hb1
  have B2 := hide hb2
  clear hb0 hb1 hb2
  go_enter Try.func21, Try.ntmps21
  have rr0 := (B0.out.ext ((Ext.refl _))).cell 0
  have rr1 := (B0.out.ext ((Ext.refl _))).cell 1
  have rr2 := (B0.out.ext ((Ext.refl _))).cell 2
  have p0 := (B1.out.ext ((Ext.refl _))).cell 0
  have p1 := (B1.out.ext ((Ext.refl _))).cell 1
  have p2 := (B1.out.ext ((Ext.refl _))).cell 2
  have p3 := (B1.out.ext ((Ext.refl _))).cell 3
  have p4 := (B1.out.ext ((Ext.refl _))).cell 4
  have p5 := (B1.out.ext ((Ext.refl _))).cell 5
  have p6 := (B1.out.ext ((Ext.refl _))).cell 6
  have p7 := (B1.out.ext ((Ext.refl _))).cell 7
  have p8 := (B1.out.ext ((Ext.refl _))).cell 8
  have p9 := (B1.out.ext ((Ext.refl _))).cell 9
  have p10 := (B1.out.ext ((Ext.refl _))).cell 10
  have p11 := (B1.out.ext ((Ext.refl _))).cell 11
  have p12 := (B1.out.ext ((Ext.refl _))).cell 12
  have p13 := (B1.out.ext ((Ext.refl _))).cell 13
  have s0_ := (B2.out.ext ((Ext.refl _))).cell 0
  have s1_ := (B2.out.ext ((Ext.refl _))).cell 1
  have s2_ := (B2.out.ext ((Ext.refl _))).cell 2
  have s3_ := (B2.out.ext ((Ext.refl _))).cell 3
  have s4_ := (B2.out.ext ((Ext.refl _))).cell 4
  go_wp2_with fail
  refine (HB.out _ HX.out).mono ?_
  rintro e w1 ⟨rfl, e1⟩
  go_wp2
  go_ret
  exact ⟨rfl, Ext.trans HX.out e1⟩
/-- The fault of Choose. -/
def choF (L : List Int) (S : List (List Int)) (Q : List Int) (d0 s0 r0 f0 i0 k0 l0 t0 lo0 hi0 a0 x0 y0 z0 nx tm bu bf : Int) (LD : List (Int × Int)) : Int :=
  if filmF L S Q ≠ 0 then filmF L S Q else if playF (S.length : Int) d0 s0 r0 f0 i0 k0 l0 t0 lo0 hi0 a0 x0 y0 z0 ≠ 0 then playF (S.length : Int) d0 s0 r0 f0 i0 k0 l0 t0 lo0 hi0 a0 x0 y0 z0
  else if nx < 1 ∨ (L.length : Int) - 1 < nx ∨ tm < 0 ∨ 2000000000000 < tm ∨ bu < 0 ∨ 2000000000000 < bu then 1
  else if hauF LD ≠ 0 then hauF LD else if bf < 0 ∨ (S.length : Int) - 1 < bf then 1 else 0
theorem plrF_buf (hk : k0 = 3) (h : plrF d0 s0 r0 f0 i0 k0 l0 t0 lo0 hi0 a0 x0 y0 z0 = 0) : 0 ≤ lo0 ∧ lo0 < hi0 ∧ hi0 ≤ 1000000000 := by
  subst hk
  unfold plrF at h
  repeat' (split at h)
  all_goals omega
theorem ret_pairZ {a b c d : Int} (h : a = b) (h' : c = d) : Ending.returned (.tuple #[.int .i64 a, .int .i64 c]) = .returned (.tuple #[.int .i64 b, .int .i64 d]) := by rw [h, h']
theorem playF_zero {n : Int} (h : playF n d0 s0 r0 f0 i0 k0 l0 t0 lo0 hi0 a0 x0 y0 z0 = 0) : fstF n d0 s0 r0 f0 i0 k0 l0 t0 lo0 hi0 a0 x0 y0 z0 = 0 := by
  unfold playF at h
  by_cases h1 : fstF n d0 s0 r0 f0 i0 k0 l0 t0 lo0 hi0 a0 x0 y0 z0 ≠ 0
  · rw [if_pos h1] at h; exact absurd h h1
  · omega
end
end Go.Proofs.Ytajadgpkmommmaa
namespace Go.Proofs.Ytajadgpkmommmaa
open Go.RowKit

theorem At.from_ {α : Type} {P : Program} {T elem : TypeId} {sz : Nat} {enc : α → List Value} {A : Option Addr} {n c : Nat} {xs : List α} {w : World} (hu : P.underlying T = some (.slice elem)) (hs : ∀ W, (Go.sizeOf elem).run P W = .ok sz W)
    (h : At w sz enc A n c xs) {k : Nat} (hk : k ≤ n) (i : Int) (hi : i = (k : Int)) :
    ∃ A', (∀ W, (Instr.slice T (.slice A n c) (some (.int .i64 i)) none none).run P W = .ok (.slice A' (n - k) (c - k)) W) ∧ (∀ W, At W sz enc A n c xs → At W sz enc A' (n - k) (c - k) (xs.drop k)) := by
  subst hi
  refine ⟨if c = k then A else A.map (·.add (k * sz)), fun W => ?_, fun W hW => hW.cut hk⟩
  have _hle := h.le
  simp [Instr.slice, run_underlying hu, Instr.sliceBounds, Instr.sliceBound, asIntOf, hs, go_sem, hk]
theorem At.range_ {α : Type} {P : Program} {T elem : TypeId} {sz : Nat} {enc : α → List Value} {A : Option Addr} {n c : Nat} {xs : List α} {w : World} (hu : P.underlying T = some (.slice elem)) (hs : ∀ W, (Go.sizeOf elem).run P W = .ok sz W)
    (h : At w sz enc A n c xs) {k m : Nat} (hk : k ≤ m) (hm : m ≤ n) (i j : Int) (hi : i = (k : Int)) (hj : j = (m : Int)) :
    ∃ A', (∀ W, (Instr.slice T (.slice A n c) (some (.int .i64 i)) (some (.int .i64 j)) none).run P W = .ok (.slice A' (m - k) (c - k)) W) ∧ (∀ W, At W sz enc A n c xs → At W sz enc A' (m - k) (c - k) ((xs.drop k).take (m - k))) := by
  subst hi; subst hj
  refine ⟨if c = k then A else A.map (·.add (k * sz)), fun W => ?_, fun W hW => ((hW.cut (k := k) (by omega)).upto (k := m - k) (by omega))⟩
  have _hle := h.le
  simp [Instr.slice, run_underlying hu, Instr.sliceBounds, Instr.sliceBound, asIntOf, hs, go_sem, hk, show m ≤ c by omega]
end Go.Proofs.Ytajadgpkmommmaa
namespace Go.Proofs.Ytajadgpkmommmaa
open Go.RowKit
theorem sizeHaul : ∀ W, (Go.sizeOf 84).run Try.prog W = .ok 2 W := fun _ => by kernel_rfl
/-- Sums of loads. -/
def sumB (l : List (Int × Int)) : Int := (l.map fun x => x.1).sum
def sumG (l : List (Int × Int)) : Int := (l.map fun x => x.2).sum
theorem take_snoc {l : List (Int × Int)} {k : Nat} (h : k < l.length) : l.take (k + 1) = l.take k ++ [l.getD k (0, 0)] := by
  rw [List.take_succ_eq_append_getElem h]; simp [List.getD, h]
theorem sumB_succ {l : List (Int × Int)} {k : Nat} (h : k < l.length) : sumB (l.take (k + 1)) = sumB (l.take k) + (l.getD k (0, 0)).1 := by
  unfold sumB; rw [take_snoc h]; simp
theorem sumG_succ {l : List (Int × Int)} {k : Nat} (h : k < l.length) : sumG (l.take (k + 1)) = sumG (l.take k) + (l.getD k (0, 0)).2 := by
  unfold sumG; rw [take_snoc h]; simp
theorem sums_bd {l : List (Int × Int)} (h : ∀ j, j < l.length → okH (l.getD j (0, 0)) = true) : ∀ k, k ≤ l.length → (0 ≤ sumB (l.take k) ∧ sumB (l.take k) ≤ 1000000000 * k) ∧ (0 ≤ sumG (l.take k) ∧ sumG (l.take k) ≤ 2000000000000 * k)
  | 0, _ => by simp [sumB, sumG]
  | k + 1, hk => by
    have ih := sums_bd h k (by omega)
    have hj := h k (by omega)
    unfold okH at hj
    rw [decide_eq_true_iff] at hj
    rw [sumB_succ (by omega), sumG_succ (by omega)]
    omega
theorem okH_drop {l : List (Int × Int)} (h : ∀ j, j < l.length → okH (l.getD j (0, 0)) = true) (k : Nat) : ∀ j, j < (l.drop k).length → okH ((l.drop k).getD j (0, 0)) = true := fun j hj => by
  rw [List.length_drop] at hj
  have := h (k + j) (by omega)
  simpa [List.getD] using this
set_option maxRecDepth 100000 in
set_option maxHeartbeats 4000000 in
theorem estimate_any {A : Option Addr} {n c : Nat} {l : List (Int × Int)} {w : World} {last : Nat} (h : At w 2 e2 A n c l) (hn : n ≤ 200) (hla : last ≤ 1000) (hok : ∀ j, j < l.length → okH (l.getD j (0, 0)) = true) :
    Calls Try.prog 54 #[.slice A n c, .int .i64 (last : Int)] w fun e w' => e = .returned (.tuple #[.int .i64 (sumB (l.drop (n - last))), .int .i64 (sumG (l.drop (n - last)))]) ∧ Ext w w' := by
  obtain ⟨A', sx, hx⟩ := h.from_ Try.underlying54 sizeHaul (k := n - last) (by omega) (max 0 ((n : Int) - (last : Int))) (by omega)
  have hM := hx w h
  have hl := h.len
  have hok2 := okH_drop hok (n - last)
  have hml : (l.drop (n - last)).length = n - (n - last) := hM.len
  have hbd := sums_bd hok2
  clear hok hok2
  have hfull : (l.drop (n - last)).take (n - (n - last)) = l.drop (n - last) := by rw [← hml, List.take_length]
  generalize l.drop (n - last) = M at *
  have hm : n - (n - last) ≤ 200 := by omega
  generalize n - (n - last) = m at *
  generalize c - (n - last) = c' at *
  have HB := hide hbd
  have HML := hide hml
  have HS1 := hide (fun j (hj : j < m) => sumB_succ (l := M) (k := j) (by omega))
  have HS2 := hide (fun j (hj : j < m) => sumG_succ (l := M) (k := j) (by omega))
  have HOK := hide hM
  have HFU := hide hfull
  have wl : IntKind.i64.wrap ((n : Int) - (last : Int)) = (n : Int) - (last : Int) := by rw [IntKind.wrap_i64]; omega
  clear hx hM hl hbd hml h hfull
  go_enter Try.func54, Try.ntmps54
  go_wp2_with fail
  go_loopw [6, 7, 18] (fun rb rg ri wr => ∃ k : Nat, k ≤ m ∧ ri = .int .i64 k ∧ rb = .int .i64 (sumB (M.take k)) ∧ rg = .int .i64 (sumG (M.take k)) ∧ Hid (Ext w wr)) (fun _ _ ri _ => m - (intOf ri).toNat)
  case atStart => exact ⟨0, by omega, rfl, rfl, rfl, hide (Ext.refl _)⟩
  case round =>
    obtain ⟨k, hk, rfl, rfl, rfl, HX⟩ := hrel
    by_cases hlt : k < m
    · obtain ⟨b, off, rfl, _⟩ := HOK.out.addr (by omega)
      obtain ⟨a1, a2⟩ := (HOK.out.ext HX.out).pair hlt
      have hb := HB.out k (by have := HML.out; omega)
      have hb1 := HB.out (k + 1) (by have := HML.out; omega)
      have HE1 := hide (HS1.out k hlt)
      have HE2 := hide (HS2.out k hlt)
      rw [HE1.out, HE2.out] at hb1
      generalize sumB (M.take k) = b0 at *
      generalize sumG (M.take k) = g0 at *
      generalize (M.getD k (0, 0)).1 = y0' at *
      generalize (M.getD k (0, 0)).2 = y1' at *
      have u1 : IntKind.i64.wrap (b0 + y0') = b0 + y0' := by rw [IntKind.wrap_i64]; omega
      have u2 : IntKind.i64.wrap (g0 + y1') = g0 + y1' := by rw [IntKind.wrap_i64]; omega
      clear hb hb1
      go_wp2_with fail
      go_roundw
      case rel => exact ⟨k + 1, by omega, by go_num, by rw [HE1.out], by rw [HE2.out], hide (Ext.trans HX.out (by repeat' (first | (with_reducible exact Below.refl _ _) | (with_reducible assumption) | (with_reducible refine below_drewN ?_ _) | (with_reducible refine Below.drew ?_) | (with_reducible refine ext_alloc ?_ _) | (with_reducible refine Below.setCell ?_ ?_ _) | go_size)))⟩
      case measure => simp [intOf]; omega
    · obtain rfl : k = m := by omega
      rw [HFU.out]
      go_wp2
      go_ret2
      exact ⟨rfl, HX.out⟩
theorem compareW_any {a b c d : Int} (ha : 0 ≤ a ∧ a < 9223372036854775808) (hb : 0 ≤ b ∧ b < 9223372036854775808) (hc : 0 ≤ c ∧ c < 9223372036854775808) (hd : 0 ≤ d ∧ d < 9223372036854775808) (w : World) :
    Calls Try.prog 56 #[.int .i64 a, .int .i64 b, .int .i64 c, .int .i64 d] w fun e w' => e = .returned (.int .i64 (cmpI ((a.toNat * d.toNat : Nat) : Int) ((c.toNat * b.toNat : Nat) : Int))) ∧ Ext w w' := by
  have H1 := hide (fun (W : World) => times_int ha hd W)
  have H2 := hide (fun (W : World) => times_int hc hb W)
  have HC := hide (fun (W : World) => compare128 (a.toNat * d.toNat) (c.toNat * b.toNat) W)
  generalize a.toNat * d.toNat = p at *
  generalize c.toNat * b.toNat = q at *
  unfold i128 at H1 H2 HC
  generalize cmpI (p : Int) (q : Int) = v at *
  generalize ((p / 18446744073709551616 : Nat) : Int) = p1 at *
  generalize ((p % 18446744073709551616 : Nat) : Int) = p2 at *
  generalize ((q / 18446744073709551616 : Nat) : Int) = q1 at *
  generalize ((q % 18446744073709551616 : Nat) : Int) = q2 at *
  clear ha hb hc hd
  go_enter Try.func56, Try.ntmps56
  go_wp2_with fail
  refine (H1.out _).mono ?_
  rintro e w1 ⟨rfl, e1⟩
  go_wp2_with fail
  refine (H2.out _).mono ?_
  rintro e w2 ⟨rfl, e2⟩
  go_wp2_with fail
  refine (HC.out _).mono ?_
  rintro e w3 ⟨rfl, e3⟩
  go_wp2_with fail
  go_ret
  exact ⟨rfl, Ext.trans e1 (Ext.trans e2 e3)⟩
/-- The choice by the rate. -/
def rateC (R : List Int) (bits long part : Int) : Int := if long = 0 then (R.length : Int) - 1 else lastF (fun i => decide (R.getD i 0 * long ≤ bits * part)) R.length
theorem rateC_bd {R : List Int} {bits long part : Int} (h : 0 < R.length) : 0 ≤ rateC R bits long part ∧ rateC R bits long part < R.length := by
  unfold rateC
  have := lastF_bd (fun i => decide (R.getD i 0 * long ≤ bits * part)) R.length
  split <;> omega
section
variable {lA : Option Addr} {ln lc : Nat} {sA : Option Addr} {sn sc : Nat} {qA : Option Addr} {qn qc : Nat} {L : List Int} {S : List (List Int)} {Q : List Int} {d0 s0 r0 f0 i0 k0 l0 t0 lo0 hi0 a0 x0 y0 z0 : Int} {nx tm bu bf : Int} {ldA : Option Addr} {ldn ldc : Nat} {w : World} {LD : List (Int × Int)}
set_option maxRecDepth 1000000 in
set_option maxHeartbeats 8000000 in
theorem byRate_any {la : Nat} (h : Shw w lA ln lc sA sn sc qA qn qc L S Q) (ok : FilmOk L S Q) (hl0 : l0 = (la : Int)) (hla : la ≤ 1000) (ht : 0 ≤ t0 ∧ t0 ≤ 10000) (hLD : At w 2 e2 ldA ldn ldc LD) (hn : ldn ≤ 200) (hok : ∀ j, j < LD.length → okH (LD.getD j (0, 0)) = true) :
    Calls Try.prog 42 #[shV lA ln lc sA sn sc qA qn qc, plV d0 s0 r0 f0 i0 k0 l0 t0 lo0 hi0 a0 x0 y0 z0, .agg #[.int .i64 nx, .int .i64 tm, .int .i64 bu, .slice ldA ldn ldc, .int .i64 bf]] w fun e w' => e = .returned (.int .i64 (rateC (ratesL L S) (sumB (LD.drop (ldn - la))) (sumG (LD.drop (ldn - la))) t0)) ∧ Ext w w' := by
  have HX : Hid (Ext w (((w.alloc (.cells #[.slice lA ln lc, .slice sA sn sc, .slice qA qn qc] 25)).alloc (.cells #[.int .i64 d0, .int .i64 s0, .int .i64 r0, .int .i64 f0, .int .i64 i0, .int .i64 k0, .int .i64 l0, .int .i64 t0, .int .i64 lo0, .int .i64 hi0, .int .i64 a0, .int .i64 x0, .int .i64 y0, .int .i64 z0] 30)).alloc (.cells #[.int .i64 nx, .int .i64 tm, .int .i64 bu, .slice ldA ldn ldc, .int .i64 bf] 56))) := hide (ext_alloc (ext_alloc (Ext.alloc _ _) _) _)
  have hb0 := ((Blk.new w 25 #[.slice lA ln lc, .slice sA sn sc, .slice qA qn qc]).alloc (.cells #[.int .i64 d0, .int .i64 s0, .int .i64 r0, .int .i64 f0, .int .i64 i0, .int .i64 k0, .int .i64 l0, .int .i64 t0, .int .i64 lo0, .int .i64 hi0, .int .i64 a0, .int .i64 x0, .int .i64 y0, .int .i64 z0] 30)).alloc (.cells #[.int .i64 nx, .int .i64 tm, .int .i64 bu, .slice ldA ldn ldc, .int .i64 bf] 56)
  have hb1 := (Blk.new (w.alloc (.cells #[.slice lA ln lc, .slice sA sn sc, .slice qA qn qc] 25)) 30 #[.int .i64 d0, .int .i64 s0, .int .i64 r0, .int .i64 f0, .int .i64 i0, .int .i64 k0, .int .i64 l0, .int .i64 t0, .int .i64 lo0, .int .i64 hi0, .int .i64 a0, .int .i64 x0, .int .i64 y0, .int .i64 z0]).alloc (.cells #[.int .i64 nx, .int .i64 tm, .int .i64 bu, .slice ldA ldn ldc, .int .i64 bf] 56)
  have hb2 := Blk.new ((w.alloc (.cells #[.slice lA ln lc, .slice sA sn sc, .slice qA qn qc] 25)).alloc (.cells #[.int .i64 d0, .int .i64 s0, .int .i64 r0, .int .i64 f0, .int .i64 i0, .int .i64 k0, .int .i64 l0, .int .i64 t0, .int .i64 lo0, .int .i64 hi0, .int .i64 a0, .int .i64 x0, .int .i64 y0, .int .i64 z0] 30)) 56 #[.int .i64 nx, .int .i64 tm, .int .i64 bu, .slice ldA ldn ldc, .int .i64 bf]
  simp only [World.size_alloc] at hb1 hb2
  have B0 := hide hb0
  have B1 := hide hb1
  have B2 := hide hb2
  clear hb0 hb1 hb2
  have HES := hide (fun (W : World) (hW : Ext w W) => estimate_any (last := la) (hLD.ext hW) hn hla hok)
  rw [← hl0] at HES
  have hbd := sums_bd (okH_drop hok (ldn - la)) (LD.drop (ldn - la)).length (Nat.le_refl _)
  rw [List.take_length] at hbd
  have hdl : (LD.drop (ldn - la)).length ≤ 200 := by rw [List.length_drop]; have := hLD.len; omega
  have HMR := hide (fun (W : World) (hW : Ext w W) => keyMean_any (h.ext hW) ok)
  have HRB := hide (fun i (hi : i < S.length) => rates_bd ok hi)
  have hs0 := ok.s0
  have hs1 := ok.s1
  have HSL := hide (rates_len (L := L) (S := S))
  have HSS := hide h.sizes.len
  clear h ok hLD hok
  generalize (LD.drop (ldn - la)).length = dl at *
  generalize sumB (LD.drop (ldn - la)) = bits at *
  generalize sumG (LD.drop (ldn - la)) = long at *
  obtain ⟨⟨hb1, hb2⟩, hg1, hg2⟩ := hbd
  have hb3 : bits ≤ 200000000000 := by omega
  have hg3 : long ≤ 400000000000000 := by omega
  clear hb2 hg2 hdl hl0
  obtain ⟨v, hv⟩ : ∃ v, v = rateC (ratesL L S) bits long t0 := ⟨_, rfl⟩
  rw [← hv]
  have HVV := hide hv
  clear hv
  have wsn : IntKind.i64.wrap ((sn : Int) - 1) = (sn : Int) - 1 := by have := HSS.out; rw [IntKind.wrap_i64]; omega
  go_enter Try.func42, Try.ntmps42
  have rr0 := (B0.out.ext ((Ext.refl _))).cell 0
  have rr1 := (B0.out.ext ((Ext.refl _))).cell 1
  have rr2 := (B0.out.ext ((Ext.refl _))).cell 2
  have p0 := (B1.out.ext ((Ext.refl _))).cell 0
  have p1 := (B1.out.ext ((Ext.refl _))).cell 1
  have p2 := (B1.out.ext ((Ext.refl _))).cell 2
  have p3 := (B1.out.ext ((Ext.refl _))).cell 3
  have p4 := (B1.out.ext ((Ext.refl _))).cell 4
  have p5 := (B1.out.ext ((Ext.refl _))).cell 5
  have p6 := (B1.out.ext ((Ext.refl _))).cell 6
  have p7 := (B1.out.ext ((Ext.refl _))).cell 7
  have p8 := (B1.out.ext ((Ext.refl _))).cell 8
  have p9 := (B1.out.ext ((Ext.refl _))).cell 9
  have p10 := (B1.out.ext ((Ext.refl _))).cell 10
  have p11 := (B1.out.ext ((Ext.refl _))).cell 11
  have p12 := (B1.out.ext ((Ext.refl _))).cell 12
  have p13 := (B1.out.ext ((Ext.refl _))).cell 13
  have s0_ := (B2.out.ext ((Ext.refl _))).cell 0
  have s1_ := (B2.out.ext ((Ext.refl _))).cell 1
  have s2_ := (B2.out.ext ((Ext.refl _))).cell 2
  have s3_ := (B2.out.ext ((Ext.refl _))).cell 3
  have s4_ := (B2.out.ext ((Ext.refl _))).cell 4
  go_wp2_with fail
  refine (HES.out _ HX.out).mono ?_
  rintro e w1 ⟨rfl, e1⟩
  clear rr0 rr1 rr2 p0 p1 p2 p3 p4 p5 p6 p7 p8 p9 p10 p11 p12 p13 s0_ s1_ s2_ s3_ s4_
  have X1 := hide (Ext.trans HX.out e1)
  have rr0 := (B0.out.ext (e1)).cell 0
  have rr1 := (B0.out.ext (e1)).cell 1
  have rr2 := (B0.out.ext (e1)).cell 2
  have p0 := (B1.out.ext (e1)).cell 0
  have p1 := (B1.out.ext (e1)).cell 1
  have p2 := (B1.out.ext (e1)).cell 2
  have p3 := (B1.out.ext (e1)).cell 3
  have p4 := (B1.out.ext (e1)).cell 4
  have p5 := (B1.out.ext (e1)).cell 5
  have p6 := (B1.out.ext (e1)).cell 6
  have p7 := (B1.out.ext (e1)).cell 7
  have p8 := (B1.out.ext (e1)).cell 8
  have p9 := (B1.out.ext (e1)).cell 9
  have p10 := (B1.out.ext (e1)).cell 10
  have p11 := (B1.out.ext (e1)).cell 11
  have p12 := (B1.out.ext (e1)).cell 12
  have p13 := (B1.out.ext (e1)).cell 13
  have s0_ := (B2.out.ext (e1)).cell 0
  have s1_ := (B2.out.ext (e1)).cell 1
  have s2_ := (B2.out.ext (e1)).cell 2
  have s3_ := (B2.out.ext (e1)).cell 3
  have s4_ := (B2.out.ext (e1)).cell 4
  by_cases h0 : long = 0
  · have e0 : (long == 0) = true := by simp [h0]
    have hv : v = (sn : Int) - 1 := by rw [HVV.out, rateC, if_pos h0, HSL.out, HSS.out]
    clear h0
    go_wp2
    go_ret
    exact ⟨ret_int hv.symm, X1.out⟩
  have e0 : (long == 0) = false := by simp [h0]
  go_wp2_with fail
  refine (HMR.out _ X1.out).mono ?_
  rintro e w2 ⟨A1, n1, c1, rfl, a1, e2'⟩
  have c7 : w2.cell? ⟨w.heap.size + 1, 7, none⟩ = some (.int .i64 t0) := e2'.cell p7
  clear rr0 rr1 rr2 p0 p1 p2 p3 p4 p5 p6 p7 p8 p9 p10 p11 p12 p13 s0_ s1_ s2_ s3_ s4_
  have X2 := hide (Ext.trans X1.out e2')
  have hn1 : n1 = S.length := by rw [← a1.len, HSL.out]
  have HN1 := hide hn1
  have hn20 : n1 ≤ 20 := by omega
  have P1 := hide a1
  have HV2 : Hid (v = lastF (fun i => decide ((ratesL L S).getD i 0 * long ≤ bits * t0)) n1) := hide (by rw [HVV.out, rateC, if_neg h0, HSL.out, ← hn1])
  clear a1 hn1 HVV HMR HES e2' e1 h0 hs0 hs1 B0 B1 B2
  generalize ratesL L S = R at *
  generalize hPB : (fun i => decide (R.getD i 0 * long ≤ bits * t0)) = PB at *
  have HB : Hid (∀ i, PB i = decide (R.getD i 0 * long ≤ bits * t0)) := hide (fun i => by rw [← hPB])
  clear hPB
  have hbt1 : 0 ≤ bits * t0 := Int.mul_nonneg hb1 ht.1
  have hbt2 : bits * t0 ≤ 200000000000 * 10000 := Int.mul_le_mul hb3 ht.2 ht.1 (by omega)
  obtain ⟨bt, hbt⟩ : ∃ bt, bt = bits * t0 := ⟨_, rfl⟩
  have wbt : IntKind.i64.wrap (bits * t0) = bt := by rw [hbt, IntKind.wrap_i64]; omega
  rw [← hbt] at hbt1 hbt2
  have HB : Hid (∀ i, PB i = decide (R.getD i 0 * long ≤ bt)) := hide (fun i => by rw [hbt]; exact HB.out i)
  clear hbt
  go_wp2_with fail
  go_loopw [9, 29] (fun ra ri wr => ∃ k : Nat, k ≤ n1 ∧ ri = .int .i64 k ∧ ra = .int .i64 (lastF PB k) ∧ Hid (Ext w2 wr)) (fun _ ri _ => n1 - (intOf ri).toNat)
  case atStart => exact ⟨0, by omega, rfl, rfl, hide (Ext.refl _)⟩
  case round =>
    obtain ⟨k, hk, rfl, rfl, HW⟩ := hrel
    by_cases hlt : k < n1
    · obtain ⟨br, orr, rfl, _⟩ := P1.out.addr (by omega)
      have ck := HW.out.cell (P1.out.num hlt)
      have ct := HW.out.cell c7
      have hRk := HRB.out k (by have := HN1.out; omega)
      have HPK := hide (HB.out k)
      have HLN := hide (lastF_succ PB k)
      generalize lastF PB k = lk at *
      generalize R.getD k 0 = rk at *
      generalize PB k = pk at *
      have i1 : (0 : Int) ≤ (k : Int) := by omega
      have i2 : (k : Int) < (n1 : Int) := by omega
      have HDC : Hid (decide (cmpI ((rk.toNat * long.toNat : Nat) : Int) ((bt.toNat * (1 : Int).toNat : Nat) : Int) ≤ 0) = pk) := hide (by rw [HPK.out, cmp_le (by omega) (by omega) (by omega) (by omega), Int.mul_one])
      have HC := hide (fun (W : World) => compareW_any (a := rk) (b := 1) (c := bt) (d := long) ⟨by omega, by omega⟩ ⟨by omega, by omega⟩ ⟨by omega, by omega⟩ ⟨by omega, by omega⟩ W)
      generalize cmpI ((rk.toNat * long.toNat : Nat) : Int) ((bt.toNat * (1 : Int).toNat : Nat) : Int) = cv at *
      clear HPK HB
      go_wp2_with fail
      refine (HC.out _).mono ?_
      rintro e w5 ⟨rfl, e5⟩
      have X6 := hide (Ext.trans HW.out e5)
      have hdc := HDC.out
      by_cases hq : cv ≤ 0
      · have hnx : lastF PB (k + 1) = (k : Int) := by rw [HLN.out, ← hdc, decide_eq_true hq, if_pos rfl]
        clear hdc HDC HLN ck ct
        go_wp2_with fail
        go_roundw
        case rel => exact ⟨k + 1, by omega, by go_num, by rw [hnx], X6⟩
        case measure => simp [intOf]; omega
      · have hnx : lastF PB (k + 1) = lk := by rw [HLN.out, ← hdc, decide_eq_false hq]; rfl
        clear hdc HDC HLN ck ct
        go_wp2_with fail
        go_roundw
        case rel => exact ⟨k + 1, by omega, by go_num, by rw [hnx], X6⟩
        case measure => simp [intOf]; omega
    · obtain rfl : k = n1 := by omega
      go_wp2
      go_ret
      exact ⟨ret_int HV2.out.symm, Ext.trans X2.out HW.out⟩
end
end Go.Proofs.Ytajadgpkmommmaa
namespace Go.Proofs.Ytajadgpkmommmaa
open Go.RowKit
theorem gen_callC {P : Program} {f : Nat} {args : Array Value} {W : World} {Q : Ending → World → Prop} (h : ∀ W', W' = W → Calls P f args W' Q) : Calls P f args W Q := h W rfl
section
variable {lA : Option Addr} {ln lc : Nat} {sA : Option Addr} {sn sc : Nat} {qA : Option Addr} {qn qc : Nat} {L : List Int} {S : List (List Int)} {Q : List Int} {d0 s0 r0 f0 i0 k0 l0 t0 lo0 hi0 a0 x0 y0 z0 : Int} {nx tm bu bf : Int} {ldA : Option Addr} {ldn ldc : Nat} {w : World} {G : Nat} {en bi lg : Int} {LD : List (Int × Int)}
theorem from_any {eN : Nat} (h : Shw w lA ln lc sA sn sc qA qn qc L S Q) (ok : FilmOk L S Q) (hG : w.heap.size ≤ G) (hen : en = (eN : Int)) (heN : eN ≤ ln) : ∀ (d n b f : Nat) (x v : Int) (W : World) (be : Int) (fi : Nat) (fo : Bool), n + d = eN → b < sn → f < sn → fi < sn → Ext w W → Blk W G 101 #[.slice lA ln lc, .slice sA sn sc, .slice qA qn qc, .int .i64 d0, .int .i64 s0, .int .i64 r0, .int .i64 f0, .int .i64 i0, .int .i64 k0, .int .i64 l0, .int .i64 t0, .int .i64 lo0, .int .i64 hi0, .int .i64 a0, .int .i64 x0, .int .i64 y0, .int .i64 z0, .int .i64 nx, .int .i64 en, .int .i64 bi, .int .i64 lg, .int .i64 be, .int .i64 (fi : Int), .bool fo] →
    Calls Try.prog 59 #[.pointer (some ⟨G, 0, none⟩), .int .i64 (n : Int), .int .i64 (b : Int), .int .i64 x, .int .i64 v, .int .i64 (f : Int)] W (FrmGives w G lA ln lc sA sn sc qA qn qc d0 s0 r0 f0 i0 k0 l0 t0 lo0 hi0 a0 x0 y0 z0 nx en bi lg)
  | 0, n, b, f, x, v, W, be, fi, fo, hn, hb, hf, hfi, hX, hB => from_zero hG hen (by omega) hf hfi hX hB
  | d + 1, n, b, f, x, v, W, be, fi, fo, hn, hb, hf, hfi, hX, hB => by
    refine from_step h ok (by omega) (by omega) hb hf hfi hX hB (fun b f x v W be fi fo hb hf hfi hX hB => ?_)
    have := from_any h ok hG hen heN d (n + 1) b f x v W be fi fo (by omega) hb hf hfi hX hB
    rwa [show ((n + 1 : Nat) : Int) = (n : Int) + 1 from rfl] at this
set_option maxRecDepth 1000000 in
set_option maxHeartbeats 8000000 in
theorem byLook_some {la aN n b : Nat} (h : Shw w lA ln lc sA sn sc qA qn qc L S Q) (ok : FilmOk L S Q) (hl0 : l0 = (la : Int)) (hla : la ≤ 1000) (ha0 : a0 = (aN : Int)) (haN : aN ≤ 6) (hn : n < ln) (hb : b < sn) (hLD : At w 2 e2 ldA ldn ldc LD) (hldn : ldn ≤ 200) (hok : ∀ j, j < LD.length → okH (LD.getD j (0, 0)) = true) :
    Calls Try.prog 44 #[shV lA ln lc sA sn sc qA qn qc, plV d0 s0 r0 f0 i0 k0 l0 t0 lo0 hi0 a0 x0 y0 z0, .agg #[.int .i64 (n : Int), .int .i64 tm, .int .i64 bu, .slice ldA ldn ldc, .int .i64 (b : Int)]] w fun e w' => (∃ r : Nat, r < sn ∧ e = .returned (.int .i64 (r : Int))) ∧ Ext w w' := by
  have hlen := h.longs.len
  have hl2 := ok.l1
  have HX : Hid (Ext w (((w.alloc (.cells #[.slice lA ln lc, .slice sA sn sc, .slice qA qn qc] 25)).alloc (.cells #[.int .i64 d0, .int .i64 s0, .int .i64 r0, .int .i64 f0, .int .i64 i0, .int .i64 k0, .int .i64 l0, .int .i64 t0, .int .i64 lo0, .int .i64 hi0, .int .i64 a0, .int .i64 x0, .int .i64 y0, .int .i64 z0] 30)).alloc (.cells #[.int .i64 (n : Int), .int .i64 tm, .int .i64 bu, .slice ldA ldn ldc, .int .i64 (b : Int)] 56))) := hide (ext_alloc (ext_alloc (Ext.alloc _ _) _) _)
  have hb0 := ((Blk.new w 25 #[.slice lA ln lc, .slice sA sn sc, .slice qA qn qc]).alloc (.cells #[.int .i64 d0, .int .i64 s0, .int .i64 r0, .int .i64 f0, .int .i64 i0, .int .i64 k0, .int .i64 l0, .int .i64 t0, .int .i64 lo0, .int .i64 hi0, .int .i64 a0, .int .i64 x0, .int .i64 y0, .int .i64 z0] 30)).alloc (.cells #[.int .i64 (n : Int), .int .i64 tm, .int .i64 bu, .slice ldA ldn ldc, .int .i64 (b : Int)] 56)
  have hb1 := (Blk.new (w.alloc (.cells #[.slice lA ln lc, .slice sA sn sc, .slice qA qn qc] 25)) 30 #[.int .i64 d0, .int .i64 s0, .int .i64 r0, .int .i64 f0, .int .i64 i0, .int .i64 k0, .int .i64 l0, .int .i64 t0, .int .i64 lo0, .int .i64 hi0, .int .i64 a0, .int .i64 x0, .int .i64 y0, .int .i64 z0]).alloc (.cells #[.int .i64 (n : Int), .int .i64 tm, .int .i64 bu, .slice ldA ldn ldc, .int .i64 (b : Int)] 56)
  have hb2 := Blk.new ((w.alloc (.cells #[.slice lA ln lc, .slice sA sn sc, .slice qA qn qc] 25)).alloc (.cells #[.int .i64 d0, .int .i64 s0, .int .i64 r0, .int .i64 f0, .int .i64 i0, .int .i64 k0, .int .i64 l0, .int .i64 t0, .int .i64 lo0, .int .i64 hi0, .int .i64 a0, .int .i64 x0, .int .i64 y0, .int .i64 z0] 30)) 56 #[.int .i64 (n : Int), .int .i64 tm, .int .i64 bu, .slice ldA ldn ldc, .int .i64 (b : Int)]
  simp only [World.size_alloc] at hb1 hb2
  have B0 := hide hb0
  have B1 := hide hb1
  have B2 := hide hb2
  clear hb0 hb1 hb2
  have HES := hide (fun (W : World) (hW : Ext w W) => estimate_any (last := la) (hLD.ext hW) hldn hla hok)
  rw [← hl0] at HES
  generalize sumB (LD.drop (ldn - la)) = bits at *
  generalize sumG (LD.drop (ldn - la)) = long at *
  obtain ⟨eN, hEN⟩ : ∃ eN : Nat, min (ln : Int) ((n : Int) + a0) = (eN : Int) := ⟨min ln (n + aN), by omega⟩
  have hen1 : eN ≤ ln := by omega
  have hen2 : n ≤ eN := by omega
  have HFR := hide (fun (W : World) hX hB => from_any (d0 := d0) (s0 := s0) (r0 := r0) (f0 := f0) (i0 := i0) (k0 := k0) (l0 := l0) (t0 := t0) (lo0 := lo0) (hi0 := hi0) (a0 := a0) (x0 := x0) (y0 := y0) (z0 := z0) (nx := (n : Int)) (en := min (ln : Int) ((n : Int) + a0)) (bi := bits) (lg := long) h ok (G := w.heap.size + 1 + 1 + 1) (by omega) hEN hen1 (eN - n) n b 0 bu 0 W 0 0 false (by omega) hb (by omega) (by omega) hX hB)
  have wna : IntKind.i64.wrap ((n : Int) + a0) = (n : Int) + a0 := by rw [IntKind.wrap_i64]; omega
  clear h ok hLD hok hl0 ha0 hEN hlen hl2
  have fin : ∀ (r : Nat), r < sn → ∃ q : Nat, q < sn ∧ Ending.returned (.int .i64 (r : Int)) = .returned (.int .i64 (q : Int)) := fun r hr => ⟨r, hr, rfl⟩
  go_enter Try.func44, Try.ntmps44
  have rr0 := (B0.out.ext ((Ext.refl _))).cell 0
  have rr1 := (B0.out.ext ((Ext.refl _))).cell 1
  have rr2 := (B0.out.ext ((Ext.refl _))).cell 2
  have p0 := (B1.out.ext ((Ext.refl _))).cell 0
  have p1 := (B1.out.ext ((Ext.refl _))).cell 1
  have p2 := (B1.out.ext ((Ext.refl _))).cell 2
  have p3 := (B1.out.ext ((Ext.refl _))).cell 3
  have p4 := (B1.out.ext ((Ext.refl _))).cell 4
  have p5 := (B1.out.ext ((Ext.refl _))).cell 5
  have p6 := (B1.out.ext ((Ext.refl _))).cell 6
  have p7 := (B1.out.ext ((Ext.refl _))).cell 7
  have p8 := (B1.out.ext ((Ext.refl _))).cell 8
  have p9 := (B1.out.ext ((Ext.refl _))).cell 9
  have p10 := (B1.out.ext ((Ext.refl _))).cell 10
  have p11 := (B1.out.ext ((Ext.refl _))).cell 11
  have p12 := (B1.out.ext ((Ext.refl _))).cell 12
  have p13 := (B1.out.ext ((Ext.refl _))).cell 13
  have s0_ := (B2.out.ext ((Ext.refl _))).cell 0
  have s1_ := (B2.out.ext ((Ext.refl _))).cell 1
  have s2_ := (B2.out.ext ((Ext.refl _))).cell 2
  have s3_ := (B2.out.ext ((Ext.refl _))).cell 3
  have s4_ := (B2.out.ext ((Ext.refl _))).cell 4
  go_wp2_with fail
  refine gen_callC fun w4 h4 => ?_
  have x4 : Ext (((w.alloc (.cells #[.slice lA ln lc, .slice sA sn sc, .slice qA qn qc] 25)).alloc (.cells #[.int .i64 d0, .int .i64 s0, .int .i64 r0, .int .i64 f0, .int .i64 i0, .int .i64 k0, .int .i64 l0, .int .i64 t0, .int .i64 lo0, .int .i64 hi0, .int .i64 a0, .int .i64 x0, .int .i64 y0, .int .i64 z0] 30)).alloc (.cells #[.int .i64 (n : Int), .int .i64 tm, .int .i64 bu, .slice ldA ldn ldc, .int .i64 (b : Int)] 56)) w4 := by rw [h4]; exact Ext.alloc _ _
  have hb4 : Blk w4 (w.heap.size + 1 + 1 + 1) 101 #[.slice lA ln lc, .slice sA sn sc, .slice qA qn qc, .int .i64 d0, .int .i64 s0, .int .i64 r0, .int .i64 f0, .int .i64 i0, .int .i64 k0, .int .i64 l0, .int .i64 t0, .int .i64 lo0, .int .i64 hi0, .int .i64 a0, .int .i64 x0, .int .i64 y0, .int .i64 z0, .int .i64 (n : Int), .int .i64 (min (ln : Int) ((n : Int) + a0)), .int .i64 0, .int .i64 0, .int .i64 0, .int .i64 0, .bool false] := by
    rw [h4]
    have := Blk.new (((w.alloc (.cells #[.slice lA ln lc, .slice sA sn sc, .slice qA qn qc] 25)).alloc (.cells #[.int .i64 d0, .int .i64 s0, .int .i64 r0, .int .i64 f0, .int .i64 i0, .int .i64 k0, .int .i64 l0, .int .i64 t0, .int .i64 lo0, .int .i64 hi0, .int .i64 a0, .int .i64 x0, .int .i64 y0, .int .i64 z0] 30)).alloc (.cells #[.int .i64 (n : Int), .int .i64 tm, .int .i64 bu, .slice ldA ldn ldc, .int .i64 (b : Int)] 56)) 101 #[.slice lA ln lc, .slice sA sn sc, .slice qA qn qc, .int .i64 d0, .int .i64 s0, .int .i64 r0, .int .i64 f0, .int .i64 i0, .int .i64 k0, .int .i64 l0, .int .i64 t0, .int .i64 lo0, .int .i64 hi0, .int .i64 a0, .int .i64 x0, .int .i64 y0, .int .i64 z0, .int .i64 (n : Int), .int .i64 (min (ln : Int) ((n : Int) + a0)), .int .i64 0, .int .i64 0, .int .i64 0, .int .i64 0, .bool false]
    simp only [World.size_alloc] at this
    exact this
  have B4 := hide hb4
  have X4 := hide x4
  clear h4 hb4 x4
  refine (HES.out _ (Ext.trans HX.out X4.out)).mono ?_
  rintro e w5 ⟨rfl, e5⟩
  have X5 := hide (Ext.trans X4.out e5)
  have B5 := hide (B4.out.ext e5)
  have f19 := B5.out.frozen 19
  have f20 := B5.out.frozen 20
  clear e5 B4 X4
  clear rr0 rr1 rr2 p0 p1 p2 p3 p4 p5 p6 p7 p8 p9 p10 p11 p12 p13 s0_ s1_ s2_ s3_ s4_
  have c19 : w5.cell? ⟨w.heap.size + 1 + 1 + 1, 19, none⟩ = some (.int .i64 0) := B5.out.cell 19
  have c20 : w5.cell? ⟨w.heap.size + 1 + 1 + 1, 20, none⟩ = some (.int .i64 0) := B5.out.cell 20
  go_upto_region 3 with (fail)
  refine gen_wpC fun w6 h6 => ?_
  have T6 : Tw w5 w6 (w.heap.size + 1 + 1 + 1) none := by rw [h6]; (repeat' (first | (with_reducible exact Tw.refl _ _ _) | (with_reducible refine Tw.drew ?_) | (with_reducible refine Tw.drewN ?_ _) | (with_reducible refine Tw.trans ?_ (Tw.set_ _ _ _ _ _))))
  have B6 : Hid (Blk w6 (w.heap.size + 1 + 1 + 1) 101 #[.slice lA ln lc, .slice sA sn sc, .slice qA qn qc, .int .i64 d0, .int .i64 s0, .int .i64 r0, .int .i64 f0, .int .i64 i0, .int .i64 k0, .int .i64 l0, .int .i64 t0, .int .i64 lo0, .int .i64 hi0, .int .i64 a0, .int .i64 x0, .int .i64 y0, .int .i64 z0, .int .i64 (n : Int), .int .i64 (min (ln : Int) ((n : Int) + a0)), .int .i64 bits, .int .i64 long, .int .i64 0, .int .i64 0, .bool false]) := hide (by rw [h6]; first | exact (B5.out.set_ 19 _).set_ 20 _ | exact (B5.out.drew.set_ 19 _).set_ 20 _)
  have X6 := hide (Below.trans (Ext.trans HX.out X5.out) (T6.below (Ext.trans HX.out X5.out).size (by omega) (fun b hb => by cases hb)))
  have N2 := T6.blk (B2.out.ext X5.out) (by omega) (by simp)
  have s0_ : w6.cell? ⟨w.heap.size + 1 + 1, 0, none⟩ = some (.int .i64 (n : Int)) := N2.cell 0
  have s2_ : w6.cell? ⟨w.heap.size + 1 + 1, 2, none⟩ = some (.int .i64 bu) := N2.cell 2
  have s4_ : w6.cell? ⟨w.heap.size + 1 + 1, 4, none⟩ = some (.int .i64 (b : Int)) := N2.cell 4
  clear h6 T6 f19 f20 c19 c20 B5 X5 N2
  go_wp2_with fail
  refine (HFR.out _ X6.out B6.out).mono ?_
  rintro e w7 ⟨rfl, x7, be, fi, fo, hfi, b7⟩
  have c22 : w7.cell? ⟨w.heap.size + 1 + 1 + 1, 22, none⟩ = some (.int .i64 (fi : Int)) := b7.cell 22
  clear s0_ s2_ s4_
  go_wp2
  go_ret
  exact ⟨fin fi hfi, x7⟩
theorem plr_kind (h : plrF d0 s0 r0 f0 i0 k0 l0 t0 lo0 hi0 a0 x0 y0 z0 = 0) : (1 ≤ k0 ∧ k0 ≤ 4) ∧ (0 ≤ i0) ∧ ((k0 = 2 ∨ k0 = 4) → (1 ≤ l0 ∧ l0 ≤ 100) ∧ 1 ≤ t0 ∧ t0 ≤ 10000) ∧ (k0 = 3 → 0 ≤ lo0 ∧ lo0 < hi0 ∧ hi0 ≤ 1000000000) ∧ (k0 = 4 → 1 ≤ a0 ∧ a0 ≤ 6) := by
  unfold plrF at h
  split at h
  · omega
  rename_i g1
  split at h
  · omega
  rename_i g2
  split at h
  · omega
  split at h
  · omega
  rename_i g4
  split at h
  · omega
  rename_i g5
  split at h
  · omega
  rename_i g6
  omega
set_option maxRecDepth 1000000 in
set_option maxHeartbeats 8000000 in
theorem choose_some {n b : Nat} (h : Shw w lA ln lc sA sn sc qA qn qc L S Q) (ok : FilmOk L S Q) (hP : plrF d0 s0 r0 f0 i0 k0 l0 t0 lo0 hi0 a0 x0 y0 z0 = 0) (hi : i0 < (sn : Int)) (hn : n < ln) (hb : b < sn) (hbu : 0 ≤ bu ∧ bu ≤ 2000000000000) (hLD : At w 2 e2 ldA ldn ldc LD) (hldn : ldn ≤ 200) (hok : ∀ j, j < LD.length → okH (LD.getD j (0, 0)) = true) :
    Calls Try.prog 21 #[shV lA ln lc sA sn sc qA qn qc, plV d0 s0 r0 f0 i0 k0 l0 t0 lo0 hi0 a0 x0 y0 z0, .agg #[.int .i64 (n : Int), .int .i64 tm, .int .i64 bu, .slice ldA ldn ldc, .int .i64 (b : Int)]] w fun e w' => (∃ r : Nat, e = .returned (.int .i64 (r : Int)) ∧ r < sn ∧ (k0 = 2 → (r : Int) = rateC (ratesL L S) (sumB (LD.drop (ldn - l0.toNat))) (sumG (LD.drop (ldn - l0.toNat))) t0)) ∧ Ext w w' := by
  obtain ⟨⟨k1, k2⟩, hi1, hr, hbf, hlk⟩ := plr_kind hP
  have hsl := h.sizes.len
  have hs0 := ok.s0
  have HX : Hid (Ext w (((w.alloc (.cells #[.slice lA ln lc, .slice sA sn sc, .slice qA qn qc] 25)).alloc (.cells #[.int .i64 d0, .int .i64 s0, .int .i64 r0, .int .i64 f0, .int .i64 i0, .int .i64 k0, .int .i64 l0, .int .i64 t0, .int .i64 lo0, .int .i64 hi0, .int .i64 a0, .int .i64 x0, .int .i64 y0, .int .i64 z0] 30)).alloc (.cells #[.int .i64 (n : Int), .int .i64 tm, .int .i64 bu, .slice ldA ldn ldc, .int .i64 (b : Int)] 56))) := hide (ext_alloc (ext_alloc (Ext.alloc _ _) _) _)
  have hb0 := ((Blk.new w 25 #[.slice lA ln lc, .slice sA sn sc, .slice qA qn qc]).alloc (.cells #[.int .i64 d0, .int .i64 s0, .int .i64 r0, .int .i64 f0, .int .i64 i0, .int .i64 k0, .int .i64 l0, .int .i64 t0, .int .i64 lo0, .int .i64 hi0, .int .i64 a0, .int .i64 x0, .int .i64 y0, .int .i64 z0] 30)).alloc (.cells #[.int .i64 (n : Int), .int .i64 tm, .int .i64 bu, .slice ldA ldn ldc, .int .i64 (b : Int)] 56)
  have hb1 := (Blk.new (w.alloc (.cells #[.slice lA ln lc, .slice sA sn sc, .slice qA qn qc] 25)) 30 #[.int .i64 d0, .int .i64 s0, .int .i64 r0, .int .i64 f0, .int .i64 i0, .int .i64 k0, .int .i64 l0, .int .i64 t0, .int .i64 lo0, .int .i64 hi0, .int .i64 a0, .int .i64 x0, .int .i64 y0, .int .i64 z0]).alloc (.cells #[.int .i64 (n : Int), .int .i64 tm, .int .i64 bu, .slice ldA ldn ldc, .int .i64 (b : Int)] 56)
  have hb2 := Blk.new ((w.alloc (.cells #[.slice lA ln lc, .slice sA sn sc, .slice qA qn qc] 25)).alloc (.cells #[.int .i64 d0, .int .i64 s0, .int .i64 r0, .int .i64 f0, .int .i64 i0, .int .i64 k0, .int .i64 l0, .int .i64 t0, .int .i64 lo0, .int .i64 hi0, .int .i64 a0, .int .i64 x0, .int .i64 y0, .int .i64 z0] 30)) 56 #[.int .i64 (n : Int), .int .i64 tm, .int .i64 bu, .slice ldA ldn ldc, .int .i64 (b : Int)]
  simp only [World.size_alloc] at hb1 hb2
  have B0 := hide hb0
  have B1 := hide hb1
  have B2 := hide hb2
  clear hb0 hb1 hb2
  by_cases c2 : k0 = 2
  · obtain ⟨⟨l1, l2⟩, t1, t2⟩ := hr (Or.inl c2)
    have q2' : (k0 == 2) = true := by simp [c2]
    have HR := hide (fun (W : World) (hW : Ext w W) => byRate_any (la := l0.toNat) (d0 := d0) (s0 := s0) (r0 := r0) (f0 := f0) (i0 := i0) (k0 := k0) (l0 := l0) (t0 := t0) (lo0 := lo0) (hi0 := hi0) (a0 := a0) (x0 := x0) (y0 := y0) (z0 := z0) (nx := (n : Int)) (tm := tm) (bu := bu) (bf := (b : Int)) (h.ext hW) ok (by omega) (by omega) ⟨by omega, t2⟩ (hLD.ext hW) hldn hok)
    have hbd := rateC_bd (R := ratesL L S) (bits := sumB (LD.drop (ldn - l0.toNat))) (long := sumG (LD.drop (ldn - l0.toNat))) (part := t0) (by rw [rates_len]; exact hs0)
    rw [rates_len] at hbd
    generalize rateC (ratesL L S) (sumB (LD.drop (ldn - l0.toNat))) (sumG (LD.drop (ldn - l0.toNat))) t0 = v at *
    obtain ⟨r, rfl⟩ : ∃ r : Nat, v = (r : Int) := ⟨v.toNat, by omega⟩
    have hrs : r < sn := by omega
    clear h ok hP hLD hok hr hbf hlk c2 hbd hi hn hb hbu l1 l2 t1 t2
    go_enter Try.func21, Try.ntmps21
    have rr0 := (B0.out.ext ((Ext.refl _))).cell 0
    have rr1 := (B0.out.ext ((Ext.refl _))).cell 1
    have rr2 := (B0.out.ext ((Ext.refl _))).cell 2
    have p0 := (B1.out.ext ((Ext.refl _))).cell 0
    have p1 := (B1.out.ext ((Ext.refl _))).cell 1
    have p2 := (B1.out.ext ((Ext.refl _))).cell 2
    have p3 := (B1.out.ext ((Ext.refl _))).cell 3
    have p4 := (B1.out.ext ((Ext.refl _))).cell 4
    have p5 := (B1.out.ext ((Ext.refl _))).cell 5
    have p6 := (B1.out.ext ((Ext.refl _))).cell 6
    have p7 := (B1.out.ext ((Ext.refl _))).cell 7
    have p8 := (B1.out.ext ((Ext.refl _))).cell 8
    have p9 := (B1.out.ext ((Ext.refl _))).cell 9
    have p10 := (B1.out.ext ((Ext.refl _))).cell 10
    have p11 := (B1.out.ext ((Ext.refl _))).cell 11
    have p12 := (B1.out.ext ((Ext.refl _))).cell 12
    have p13 := (B1.out.ext ((Ext.refl _))).cell 13
    have s0_ := (B2.out.ext ((Ext.refl _))).cell 0
    have s1_ := (B2.out.ext ((Ext.refl _))).cell 1
    have s2_ := (B2.out.ext ((Ext.refl _))).cell 2
    have s3_ := (B2.out.ext ((Ext.refl _))).cell 3
    have s4_ := (B2.out.ext ((Ext.refl _))).cell 4
    go_wp2_with fail
    refine (HR.out _ HX.out).mono ?_
    rintro e w1 ⟨rfl, e1⟩
    go_wp2
    go_ret
    exact ⟨⟨r, rfl, hrs, fun _ => rfl⟩, Ext.trans HX.out e1⟩
  have hq : ∀ (r : Nat) (v : Int), k0 = 2 → (r : Int) = v := fun _ _ e => absurd e c2
  have HQ := hide hq
  clear hq
  by_cases c3 : k0 = 3
  · have HR := hide (fun (W : World) (hW : Ext w W) => byBuffer_any (d0 := d0) (s0 := s0) (r0 := r0) (f0 := f0) (i0 := i0) (k0 := k0) (l0 := l0) (t0 := t0) (lo0 := lo0) (hi0 := hi0) (a0 := a0) (x0 := x0) (y0 := y0) (z0 := z0) (nx := (n : Int)) (tm := tm) (bu := bu) (bf := (b : Int)) (ldA := ldA) (ldn := ldn) (ldc := ldc) (h.ext hW) ok (hbf c3) hbu)
    have hbd : 0 ≤ bufC (ratesL L S) lo0 hi0 bu ∧ bufC (ratesL L S) lo0 hi0 bu < S.length := by
      have h2 := lastF_bd (bufB (ratesL L S) lo0 hi0 bu) (ratesL L S).length
      unfold bufC
      rw [rates_len] at *
      split
      · omega
      · split <;> omega
    have q2' : (k0 == 2) = false := by simp [c2]
    have q3' : (k0 == 3) = true := by simp [c3]
    generalize bufC (ratesL L S) lo0 hi0 bu = v at *
    obtain ⟨r, rfl⟩ : ∃ r : Nat, v = (r : Int) := ⟨v.toNat, by omega⟩
    have hrs : r < sn := by omega
    clear h ok hP hLD hok hr hbf hlk c2 c3 hbd hi hn hb hbu
    go_enter Try.func21, Try.ntmps21
    have rr0 := (B0.out.ext ((Ext.refl _))).cell 0
    have rr1 := (B0.out.ext ((Ext.refl _))).cell 1
    have rr2 := (B0.out.ext ((Ext.refl _))).cell 2
    have p0 := (B1.out.ext ((Ext.refl _))).cell 0
    have p1 := (B1.out.ext ((Ext.refl _))).cell 1
    have p2 := (B1.out.ext ((Ext.refl _))).cell 2
    have p3 := (B1.out.ext ((Ext.refl _))).cell 3
    have p4 := (B1.out.ext ((Ext.refl _))).cell 4
    have p5 := (B1.out.ext ((Ext.refl _))).cell 5
    have p6 := (B1.out.ext ((Ext.refl _))).cell 6
    have p7 := (B1.out.ext ((Ext.refl _))).cell 7
    have p8 := (B1.out.ext ((Ext.refl _))).cell 8
    have p9 := (B1.out.ext ((Ext.refl _))).cell 9
    have p10 := (B1.out.ext ((Ext.refl _))).cell 10
    have p11 := (B1.out.ext ((Ext.refl _))).cell 11
    have p12 := (B1.out.ext ((Ext.refl _))).cell 12
    have p13 := (B1.out.ext ((Ext.refl _))).cell 13
    have s0_ := (B2.out.ext ((Ext.refl _))).cell 0
    have s1_ := (B2.out.ext ((Ext.refl _))).cell 1
    have s2_ := (B2.out.ext ((Ext.refl _))).cell 2
    have s3_ := (B2.out.ext ((Ext.refl _))).cell 3
    have s4_ := (B2.out.ext ((Ext.refl _))).cell 4
    go_wp2_with fail
    refine (HR.out _ HX.out).mono ?_
    rintro e w1 ⟨rfl, e1⟩
    go_wp2
    go_ret
    exact ⟨⟨r, rfl, hrs, HQ.out r _⟩, Ext.trans HX.out e1⟩
  by_cases c4 : k0 = 4
  · obtain ⟨⟨l1, l2⟩, t1, t2⟩ := hr (Or.inr c4)
    obtain ⟨a1, a2⟩ := hlk c4
    have HR := hide (fun (W : World) (hW : Ext w W) => byLook_some (la := l0.toNat) (aN := a0.toNat) (d0 := d0) (s0 := s0) (r0 := r0) (f0 := f0) (i0 := i0) (k0 := k0) (l0 := l0) (t0 := t0) (lo0 := lo0) (hi0 := hi0) (a0 := a0) (x0 := x0) (y0 := y0) (z0 := z0) (tm := tm) (bu := bu) (h.ext hW) ok (by omega) (by omega) (by omega) (by omega) hn hb (hLD.ext hW) hldn hok)
    have q2' : (k0 == 2) = false := by simp [c2]
    have q3' : (k0 == 3) = false := by simp [c3]
    have q4' : (k0 == 4) = true := by simp [c4]
    clear h ok hP hLD hok hr hbf hlk c2 c3 c4 hi hn hb hbu l1 l2 t1 t2 a1 a2
    go_enter Try.func21, Try.ntmps21
    have rr0 := (B0.out.ext ((Ext.refl _))).cell 0
    have rr1 := (B0.out.ext ((Ext.refl _))).cell 1
    have rr2 := (B0.out.ext ((Ext.refl _))).cell 2
    have p0 := (B1.out.ext ((Ext.refl _))).cell 0
    have p1 := (B1.out.ext ((Ext.refl _))).cell 1
    have p2 := (B1.out.ext ((Ext.refl _))).cell 2
    have p3 := (B1.out.ext ((Ext.refl _))).cell 3
    have p4 := (B1.out.ext ((Ext.refl _))).cell 4
    have p5 := (B1.out.ext ((Ext.refl _))).cell 5
    have p6 := (B1.out.ext ((Ext.refl _))).cell 6
    have p7 := (B1.out.ext ((Ext.refl _))).cell 7
    have p8 := (B1.out.ext ((Ext.refl _))).cell 8
    have p9 := (B1.out.ext ((Ext.refl _))).cell 9
    have p10 := (B1.out.ext ((Ext.refl _))).cell 10
    have p11 := (B1.out.ext ((Ext.refl _))).cell 11
    have p12 := (B1.out.ext ((Ext.refl _))).cell 12
    have p13 := (B1.out.ext ((Ext.refl _))).cell 13
    have s0_ := (B2.out.ext ((Ext.refl _))).cell 0
    have s1_ := (B2.out.ext ((Ext.refl _))).cell 1
    have s2_ := (B2.out.ext ((Ext.refl _))).cell 2
    have s3_ := (B2.out.ext ((Ext.refl _))).cell 3
    have s4_ := (B2.out.ext ((Ext.refl _))).cell 4
    go_wp2_with fail
    refine (HR.out _ HX.out).mono ?_
    rintro e w1 ⟨⟨r, hrs, rfl⟩, e1⟩
    go_wp2
    go_ret
    exact ⟨⟨r, rfl, hrs, HQ.out r _⟩, Ext.trans HX.out e1⟩
  have q2' : (k0 == 2) = false := by simp [c2]
  have q3' : (k0 == 3) = false := by simp [c3]
  have q4' : (k0 == 4) = false := by simp [c4]
  obtain ⟨r, hr'⟩ : ∃ r : Nat, i0 = (r : Int) := ⟨i0.toNat, by omega⟩
  have hrs : r < sn := by omega
  have HR2 := hide hr'
  clear h ok hP hLD hok hr hbf hlk c2 c3 c4 hi hn hb hbu hr'
  go_enter Try.func21, Try.ntmps21
  have rr0 := (B0.out.ext ((Ext.refl _))).cell 0
  have rr1 := (B0.out.ext ((Ext.refl _))).cell 1
  have rr2 := (B0.out.ext ((Ext.refl _))).cell 2
  have p0 := (B1.out.ext ((Ext.refl _))).cell 0
  have p1 := (B1.out.ext ((Ext.refl _))).cell 1
  have p2 := (B1.out.ext ((Ext.refl _))).cell 2
  have p3 := (B1.out.ext ((Ext.refl _))).cell 3
  have p4 := (B1.out.ext ((Ext.refl _))).cell 4
  have p5 := (B1.out.ext ((Ext.refl _))).cell 5
  have p6 := (B1.out.ext ((Ext.refl _))).cell 6
  have p7 := (B1.out.ext ((Ext.refl _))).cell 7
  have p8 := (B1.out.ext ((Ext.refl _))).cell 8
  have p9 := (B1.out.ext ((Ext.refl _))).cell 9
  have p10 := (B1.out.ext ((Ext.refl _))).cell 10
  have p11 := (B1.out.ext ((Ext.refl _))).cell 11
  have p12 := (B1.out.ext ((Ext.refl _))).cell 12
  have p13 := (B1.out.ext ((Ext.refl _))).cell 13
  have s0_ := (B2.out.ext ((Ext.refl _))).cell 0
  have s1_ := (B2.out.ext ((Ext.refl _))).cell 1
  have s2_ := (B2.out.ext ((Ext.refl _))).cell 2
  have s3_ := (B2.out.ext ((Ext.refl _))).cell 3
  have s4_ := (B2.out.ext ((Ext.refl _))).cell 4
  go_wp2
  go_ret
  exact ⟨⟨r, ret_int HR2.out, hrs, HQ.out r _⟩, HX.out⟩
end
end Go.Proofs.Ytajadgpkmommmaa
