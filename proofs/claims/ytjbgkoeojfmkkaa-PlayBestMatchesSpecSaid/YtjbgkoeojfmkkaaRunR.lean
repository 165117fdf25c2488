/- Walks: power, fits, ask, checkChoices of the reference. Conditions as stated. -/
import Derived.Test.YtjbgkoeojfmkkaaRunB
import Derived.Test.YtjbgkoeojfmkkaaRunC
import Derived.Test.YtjbgkoeojfmkkaaFilmE
import Derived.Test.YtjbgkoeojfmkkaaFilmG
import Derived.Test.YtjbgkoeojfmkkaaNetA
namespace Go.Proofs.Ytjbgkoeojfmkkaa
open Go.RowKit

/-- A power, but at most 4097: m so far, k steps to go. -/
def powR (base : Int) : Int → Nat → Int
  | m, 0 => m
  | m, k + 1 => powR base (min (m * base) 4097) k
theorem powR_succ (base m : Int) (k : Nat) : powR base m (k + 1) = powR base (min (m * base) 4097) k := rfl
theorem powR_big {base : Int} (hb : 1 ≤ base) : ∀ k, powR base 4097 k = 4097
  | 0 => rfl
  | k + 1 => by
    rw [powR_succ, show min (4097 * base) 4097 = 4097 by omega]
    exact powR_big hb k
theorem pow_many {base : Int} (hb : 0 ≤ base) : ∀ (k : Nat) (m : Int), 0 ≤ m → m ≤ 4096 → decide (4096 < powR base m k) = manyN base m k
  | 0, m, h0, h1 => by
    have : ¬ 4096 < m := by omega
    simp [powR, manyN, this]
  | k + 1, m, h0, h1 => by
    have hm := Int.mul_nonneg h0 hb
    rw [powR_succ, manyN_succ]
    by_cases h : 4096 < m * base
    · have hb1 : 1 ≤ base := by
        by_cases hz : base = 0
        · subst hz; omega
        · omega
      rw [if_pos h, show min (m * base) 4097 = 4097 by omega, powR_big hb1]
      simp
    · rw [if_neg h, show min (m * base) 4097 = m * base by omega]
      exact pow_many hb k _ hm (by omega)
set_option maxHeartbeats 1000000 in
theorem power_any {base : Int} {pw : Nat} (hb : 0 ≤ base ∧ base ≤ 1000) (hp : pw ≤ 1000) (w : World) :
    Calls Try.prog 55 #[.int .i64 base, .int .i64 (pw : Int)] w fun e w' => e = .returned (.int .i64 (powR base 1 pw)) ∧ Ext w w' := by
  obtain ⟨hb1, hb2⟩ := hb
  go_enter Try.func55, Try.ntmps55
  go_wp2_with fail
  go_loopw [5, 7] (fun rn ri wr => ∃ (k : Nat) (m : Int), k ≤ pw ∧ ri = .int .i64 k ∧ rn = .int .i64 m ∧ (0 ≤ m ∧ m ≤ 4097) ∧ Hid (powR base m (pw - k) = powR base 1 pw) ∧ Hid (Ext w wr)) (fun _ i _ => pw - (intOf i).toNat)
  case atStart => exact ⟨0, 1, by omega, rfl, rfl, by omega, hide (by simp), hide (Ext.refl _)⟩
  case round =>
    obtain ⟨k, m, hk, rfl, rfl, hm, HS, HX⟩ := hrel
    by_cases hlt : k < pw
    · have hs := HS.out
      obtain ⟨j, hj⟩ : ∃ j, pw - k = j + 1 := ⟨pw - k - 1, by omega⟩
      have hj2 : pw - (k + 1) = j := by omega
      have h1 := Int.mul_le_mul_of_nonneg_left hb2 hm.1
      have h2 := Int.mul_nonneg hm.1 hb1
      rw [hj] at hs
      rw [powR_succ] at hs
      have v1 : IntKind.i64.wrap (m * base) = m * base := by rw [IntKind.wrap_i64]; omega
      have v2 : wrap64 (m * base) = m * base := by unfold wrap64; omega
      have i1 : (k : Int) < (pw : Int) := by omega
      have HS2 : Hid (powR base (min (m * base) 4097) (pw - (k + 1)) = powR base 1 pw) := hide (by rw [hj2]; exact hs)
      clear hs HS hj hj2
      have hmm : 0 ≤ min (m * base) 4097 ∧ min (m * base) 4097 ≤ 4097 := by omega
      have HMM := hide hmm
      clear hmm h1 h2
      go_wp2
      go_roundw
      case rel => exact ⟨k + 1, min (m * base) 4097, by omega, by go_num, rfl, HMM.out, HS2, HX⟩
      case measure => simp [intOf]; omega
    · have hkn : k = pw := by omega
      have HS2 : Hid (m = powR base 1 pw) := hide (by rw [← HS.out, hkn, Nat.sub_self]; rfl)
      clear HS
      have i1 : ¬ (k : Int) < (pw : Int) := by omega
      clear hkn
      go_wp2
      go_ret
      exact ⟨ret_int HS2.out, HX.out⟩
section
variable {lA : Option Addr} {ln lc : Nat} {sA : Option Addr} {sn sc : Nat} {qA : Option Addr} {qn qc : Nat} {w : World} {L : List Int} {S : List (List Int)} {Q : List Int}
/-- Does a player fit? -/
def fitF (n : Int) (i k a : Int) : Int := if n ≤ i then 1 else if k = 4 ∧ manyN n 1 a.toNat = true then 2 else 0
set_option maxRecDepth 100000 in
set_option maxHeartbeats 4000000 in
theorem fits_any {d s r f i k l t lo hi a x y z : Int} (hsn : sn ≤ 1000) (ha : k = 4 → 0 ≤ a ∧ a ≤ 1000) :
    Calls Try.prog 76 #[shV lA ln lc sA sn sc qA qn qc, plV d s r f i k l t lo hi a x y z] w fun e w' => e = .returned (.int .i64 (fitF sn i k a)) ∧ Ext w w' := by
  have hv : fitF sn i k a = if (sn : Int) ≤ i then 1 else if k = 4 ∧ manyN sn 1 a.toNat = true then 2 else 0 := rfl
  generalize fitF sn i k a = v at *
  have B0 := hide ((Blk.new w 25 #[.slice lA ln lc, .slice sA sn sc, .slice qA qn qc]).alloc (.cells #[.int .i64 d, .int .i64 s, .int .i64 r, .int .i64 f, .int .i64 i, .int .i64 k, .int .i64 l, .int .i64 t, .int .i64 lo, .int .i64 hi, .int .i64 a, .int .i64 x, .int .i64 y, .int .i64 z] 30))
  have b1 := Blk.new (w.alloc (.cells #[.slice lA ln lc, .slice sA sn sc, .slice qA qn qc] 25)) 30 #[.int .i64 d, .int .i64 s, .int .i64 r, .int .i64 f, .int .i64 i, .int .i64 k, .int .i64 l, .int .i64 t, .int .i64 lo, .int .i64 hi, .int .i64 a, .int .i64 x, .int .i64 y, .int .i64 z]
  rw [World.size_alloc] at b1
  have B1 := hide b1
  have HX : Hid (Ext w ((w.alloc (.cells #[.slice lA ln lc, .slice sA sn sc, .slice qA qn qc] 25)).alloc (.cells #[.int .i64 d, .int .i64 s, .int .i64 r, .int .i64 f, .int .i64 i, .int .i64 k, .int .i64 l, .int .i64 t, .int .i64 lo, .int .i64 hi, .int .i64 a, .int .i64 x, .int .i64 y, .int .i64 z] 30))) := hide (ext_alloc (Ext.alloc _ _) _)
  clear b1
  have q1 := B0.out.cell 1
  have p4 := B1.out.cell 4
  have p5 := B1.out.cell 5
  have p10 := B1.out.cell 10
  by_cases h1 : (sn : Int) ≤ i
  · have i1 : decide ((sn : Int) ≤ i) = true := by simp [h1]
    have HV : Hid (v = 1) := hide (by rw [hv, if_pos h1])
    clear hv h1
    go_enter Try.func76, Try.ntmps76
    go_wp2_with fail
    go_ret
    exact ⟨ret_int HV.out.symm, HX.out⟩
  have i1 : decide ((sn : Int) ≤ i) = false := by simp; omega
  rw [if_neg h1] at hv
  clear h1
  by_cases hk : k = 4
  rotate_left
  · have i2 : (k == 4) = false := by simp [hk]
    have HV : Hid (v = 0) := hide (by rw [hv, if_neg (fun h => hk h.1)])
    clear hv hk
    go_enter Try.func76, Try.ntmps76
    go_wp2_with fail
    go_ret
    exact ⟨ret_int HV.out.symm, HX.out⟩
  obtain ⟨a1, a2⟩ := ha hk
  have i2 : (k == 4) = true := by simp [hk]
  have HK := hide hk
  obtain ⟨an, rfl⟩ : ∃ an : Nat, a = (an : Int) := ⟨a.toNat, by omega⟩
  have HP := hide (fun (W : World) => power_any (base := (sn : Int)) (pw := an) ⟨by omega, by omega⟩ (by omega) W)
  have hpm := pow_many (base := (sn : Int)) (by omega) an 1 (by omega) (by omega)
  rw [Int.toNat_natCast] at hv
  generalize powR (sn : Int) 1 an = pv at *
  generalize manyN (sn : Int) 1 an = mb at *
  clear hk ha
  cases mb
  · have HV : Hid (v = 0) := hide (by rw [hv, if_neg (by simp)])
    clear hv
    go_enter Try.func76, Try.ntmps76
    go_wp2_with fail
    refine (HP.out _).mono ?_
    rintro e w1 ⟨rfl, e1⟩
    have E1 := hide e1
    clear e1
    go_wp2_with fail
    go_ret
    exact ⟨ret_int HV.out.symm, Ext.trans HX.out E1.out⟩
  · have HV : Hid (v = 2) := hide (by rw [hv, if_pos ⟨HK.out, rfl⟩])
    clear hv
    go_enter Try.func76, Try.ntmps76
    go_wp2_with fail
    refine (HP.out _).mono ?_
    rintro e w1 ⟨rfl, e1⟩
    have E1 := hide e1
    clear e1
    go_wp2_with fail
    go_ret
    exact ⟨ret_int HV.out.symm, Ext.trans HX.out E1.out⟩
set_option maxRecDepth 100000 in
set_option maxHeartbeats 8000000 in
theorem ask_any {d s r f i k l t lo hi a x y z : Int} {tA : Option Addr} {tn tc : Nat} {T : List (Int × Int)} (h : Shw w lA ln lc sA sn sc qA qn qc L S Q) (hT : At w 2 e2 tA tn tc T) :
    Calls Try.prog 47 #[shV lA ln lc sA sn sc qA qn qc, .slice tA tn tc, plV d s r f i k l t lo hi a x y z] w fun e w' => e = .returned (.int .i64 (runF L S Q T d s r f i k l t lo hi a x y z)) ∧ Ext w w' := by
  have HF := hide (fun (W : World) (hW : Ext w W) => refFilm_any (h.ext hW))
  have HT := hide (fun (W : World) (hW : Ext w W) => refTrace_any (hT.ext hW))
  have HP := hide (fun (W : World) => refPlr_any (d := d) (s := s) (r := r) (f := f) (i := i) (k := k) (l := l) (t := t) (lo := lo) (hi := hi) (a := a) (x := x) (y := y) (z := z) (w := W))
  have hsl := h.sizes.len
  have HFI : Hid (filmF L S Q = 0 → plrF d s r f i k l t lo hi a x y z = 0 → ∀ W, Calls Try.prog 76 #[shV lA ln lc sA sn sc qA qn qc, plV d s r f i k l t lo hi a x y z] W fun e w' => e = .returned (.int .i64 (fitF sn i k a)) ∧ Ext W w') := hide (fun h1 h2 W => fits_any (by have := (filmF_ok h1).s1; omega) (fun hk => by subst hk; have := plrF_look h2; omega))
  have hv : runF L S Q T d s r f i k l t lo hi a x y z = if filmF L S Q ≠ 0 then filmF L S Q else if trcF T ≠ 0 then trcF T else if plrF d s r f i k l t lo hi a x y z ≠ 0 then plrF d s r f i k l t lo hi a x y z else fitF sn i k a := by
    unfold runF playF fstF fitF firstNZ firstNZ firstNZ
    rw [hsl]
    generalize plrF d s r f i k l t lo hi a x y z = p
    generalize filmF L S Q = q1
    generalize trcF T = q2
    by_cases c1 : q1 = 0
    · by_cases c2 : q2 = 0
      · by_cases c3 : p = 0
        · by_cases c4 : (sn : Int) ≤ i
          · simp [c1, c2, c3, c4]
          · simp [c1, c2, c3, c4]
        · simp [c1, c2, c3]
      · simp [c1, c2]
    · simp [c1]
  generalize runF L S Q T d s r f i k l t lo hi a x y z = v at *
  generalize filmF L S Q = q1 at *
  generalize trcF T = q2 at *
  generalize plrF d s r f i k l t lo hi a x y z = q3 at *
  generalize fitF sn i k a = q4 at *
  have HV := hide hv
  clear hv hsl h hT
  have B0 := hide ((Blk.new w 25 #[.slice lA ln lc, .slice sA sn sc, .slice qA qn qc]).alloc (.cells #[.int .i64 d, .int .i64 s, .int .i64 r, .int .i64 f, .int .i64 i, .int .i64 k, .int .i64 l, .int .i64 t, .int .i64 lo, .int .i64 hi, .int .i64 a, .int .i64 x, .int .i64 y, .int .i64 z] 30))
  have b1 := Blk.new (w.alloc (.cells #[.slice lA ln lc, .slice sA sn sc, .slice qA qn qc] 25)) 30 #[.int .i64 d, .int .i64 s, .int .i64 r, .int .i64 f, .int .i64 i, .int .i64 k, .int .i64 l, .int .i64 t, .int .i64 lo, .int .i64 hi, .int .i64 a, .int .i64 x, .int .i64 y, .int .i64 z]
  rw [World.size_alloc] at b1
  have B1 := hide b1
  have HX : Hid (Ext w ((w.alloc (.cells #[.slice lA ln lc, .slice sA sn sc, .slice qA qn qc] 25)).alloc (.cells #[.int .i64 d, .int .i64 s, .int .i64 r, .int .i64 f, .int .i64 i, .int .i64 k, .int .i64 l, .int .i64 t, .int .i64 lo, .int .i64 hi, .int .i64 a, .int .i64 x, .int .i64 y, .int .i64 z] 30))) := hide (ext_alloc (Ext.alloc _ _) _)
  clear b1
  go_enter Try.func47, Try.ntmps47
  go_wp2_with fail
  refine (HF.out _ HX.out).mono ?_
  rintro e w1 ⟨rfl, e1⟩
  have E1 := hide (Ext.trans HX.out e1)
  have B0 := hide (B0.out.ext e1)
  have B1 := hide (B1.out.ext e1)
  clear e1 HX
  by_cases h1 : q1 = 0
  rotate_left
  · have i1 : (q1 != 0) = true := by simp [h1]
    have HVV : Hid (v = q1) := hide (by rw [HV.out, if_pos h1])
    clear h1
    go_wp2_with fail
    go_ret
    exact ⟨ret_int HVV.out.symm, E1.out⟩
  have i1 : (q1 != 0) = false := by simp [h1]
  have H1 := hide h1
  clear h1
  go_wp2_with fail
  refine (HT.out _ E1.out).mono ?_
  rintro e w2 ⟨rfl, e2⟩
  have E2 := hide (Ext.trans E1.out e2)
  have B0 := hide (B0.out.ext e2)
  have B1 := hide (B1.out.ext e2)
  clear e2 E1
  by_cases h2 : q2 = 0
  rotate_left
  · have i2 : (q2 != 0) = true := by simp [h2]
    have HVV : Hid (v = q2) := hide (by rw [HV.out, if_neg (by have := H1.out; omega), if_pos h2])
    clear h2
    go_wp2_with fail
    go_ret
    exact ⟨ret_int HVV.out.symm, E2.out⟩
  have i2 : (q2 != 0) = false := by simp [h2]
  have H2 := hide h2
  clear h2

  have p0 := B1.out.cell 0
  have p1 := B1.out.cell 1
  have p2 := B1.out.cell 2
  have p3 := B1.out.cell 3
  have p4 := B1.out.cell 4
  have p5 := B1.out.cell 5
  have p6 := B1.out.cell 6
  have p7 := B1.out.cell 7
  have p8 := B1.out.cell 8
  have p9 := B1.out.cell 9
  have p10 := B1.out.cell 10
  have p11 := B1.out.cell 11
  have p12 := B1.out.cell 12
  have p13 := B1.out.cell 13
  go_wp2_with fail
  refine (HP.out _).mono ?_
  rintro e w3 ⟨rfl, e3⟩
  have E3 := hide (Ext.trans E2.out e3)
  have B0 := hide (B0.out.ext e3)
  have B1 := hide (B1.out.ext e3)
  clear e3 E2 p0 p1 p2 p3 p4 p5 p6 p7 p8 p9 p10 p11 p12 p13
  by_cases h3 : q3 = 0
  rotate_left
  · have i3 : (q3 != 0) = true := by simp [h3]
    have HVV : Hid (v = q3) := hide (by rw [HV.out, if_neg (by have := H1.out; omega), if_neg (by have := H2.out; omega), if_pos h3])
    clear h3
    go_wp2_with fail
    go_ret
    exact ⟨ret_int HVV.out.symm, E3.out⟩
  have i3 : (q3 != 0) = false := by simp [h3]
  have HFI2 := hide (HFI.out H1.out h3)
  have HVV : Hid (v = q4) := hide (by rw [HV.out, if_neg (by have := H1.out; omega), if_neg (by have := H2.out; omega), if_neg (by omega)])
  clear h3
  have r0 := B0.out.cell 0
  have r1 := B0.out.cell 1
  have r2 := B0.out.cell 2
  have p0 := B1.out.cell 0
  have p1 := B1.out.cell 1
  have p2 := B1.out.cell 2
  have p3 := B1.out.cell 3
  have p4 := B1.out.cell 4
  have p5 := B1.out.cell 5
  have p6 := B1.out.cell 6
  have p7 := B1.out.cell 7
  have p8 := B1.out.cell 8
  have p9 := B1.out.cell 9
  have p10 := B1.out.cell 10
  have p11 := B1.out.cell 11
  have p12 := B1.out.cell 12
  have p13 := B1.out.cell 13
  go_wp2_with fail
  refine (HFI2.out _).mono ?_
  rintro e w4 ⟨rfl, e4⟩
  have E4 := hide (Ext.trans E3.out e4)
  clear e4
  go_wp2_with fail
  go_ret
  exact ⟨ret_int HVV.out.symm, E4.out⟩
set_option maxRecDepth 100000 in
set_option maxHeartbeats 4000000 in
theorem refChoices_any {cA : Option Addr} {cn cc : Nat} {C : List Int} (hsn : sn ≤ 1000) (hC : At w 1 e64 cA cn cc C) :
    Calls Try.prog 48 #[shV lA ln lc sA sn sc qA qn qc, .slice cA cn cc] w fun e w' => e = .returned (.int .i64 (chsF ln sn C)) ∧ Ext w w' := by
  have hl := hC.len
  have hb := hC.bound
  have H := hide hC
  have hv : chsF ln sn C = if (cn : Int) ≠ (ln : Int) then 3 else if rngB 0 ((sn : Int) - 1) C = true then 1 else 0 := by unfold chsF; rw [hl]
  have HL := hide hl
  clear hC hl
  generalize chsF ln sn C = v at *
  have HY : Hid (¬ cn = ln → v = 3) := hide (fun h => by rw [hv, if_pos (by omega)])
  have HN : Hid (cn = ln → rngB 0 ((sn : Int) - 1) C = true → v = 1) := hide (fun h h2 => by rw [hv, if_neg (by omega), if_pos h2])
  have HM : Hid (cn = ln → rngB 0 ((sn : Int) - 1) C = false → v = 0) := hide (fun h h2 => by rw [hv, if_neg (by omega), if_neg (by simp [h2])])
  clear hv
  have v1 : IntKind.i64.wrap ((sn : Int) - 1) = (sn : Int) - 1 := by rw [IntKind.wrap_i64]; omega
  by_cases h1 : cn = ln
  rotate_left
  · have i1 : ((cn : Int) != (ln : Int)) = true := by simp; omega
    have HV := hide (HY.out h1)
    clear h1 HY HN HM
    go_enter Try.func48, Try.ntmps48
    go_wp2
    go_ret
    exact ⟨ret_int HV.out.symm, (by repeat' (first | (with_reducible exact Below.refl _ _) | (with_reducible assumption) | (with_reducible refine below_drewN ?_ _) | (with_reducible refine Below.drew ?_) | (with_reducible refine ext_alloc ?_ _) | (with_reducible refine Below.setCell ?_ ?_ _) | go_size))⟩
  have i1 : ((cn : Int) != (ln : Int)) = false := by simp [h1]
  have HN2 := hide (HN.out h1)
  have HM2 := hide (HM.out h1)
  clear h1 HY HN HM
  go_enter Try.func48, Try.ntmps48
  go_wp2_with fail
  go_loopw [15] (fun ri wr => ∃ j : Nat, j ≤ cn ∧ ri = .int .i64 j ∧ Hid (rngB 0 ((sn : Int) - 1) (C.drop j) = rngB 0 ((sn : Int) - 1) C) ∧ Hid (Ext (w.alloc (.cells #[.slice lA ln lc, .slice sA sn sc, .slice qA qn qc] 25)) wr)) (fun ri _ => cn - (intOf ri).toNat)
  case atStart => exact ⟨0, by omega, rfl, hide (by simp), hide (Ext.refl _)⟩
  case round =>
    obtain ⟨j, hj, rfl, HS, HX⟩ := hrel
    have EW := hide (Ext.trans (Ext.alloc w (.cells #[.slice lA ln lc, .slice sA sn sc, .slice qA qn qc] 25)) HX.out)
    have c1 : wr.cell? ⟨w.heap.size, 1, none⟩ = some (.slice sA sn sc) := HX.out.cell ((Blk.new w _ _).cell 1)
    by_cases hlt : j < cn
    · obtain ⟨b, off, rfl, _⟩ := H.out.addr (by omega)
      have a1 := (H.out.ext EW.out).num hlt
      have hs := HS.out
      rw [drop_consA C j 0 (by have := HL.out; omega), rngB_cons] at hs
      have k1 : (j : Int) < (cn : Int) := by omega
      have k0 : (0 : Int) ≤ (j : Int) := by omega
      generalize C.getD j 0 = y at *
      by_cases hy : y < 0 ∨ (sn : Int) - 1 < y
      · have HV := hide (HN2.out (by rw [← hs, decide_eq_true hy]; rfl))
        have HO := hide (fun (W : World) => within_no hy W)
        clear hs hy HS HN2 HM2
        go_wp2_with fail
        refine (HO.out _).mono ?_
        rintro e w2 ⟨rfl, rfl⟩
        go_wp2
        go_ret
        exact ⟨ret_int HV.out.symm, EW.out⟩
      · have HS2 : Hid (rngB 0 ((sn : Int) - 1) (C.drop (j + 1)) = rngB 0 ((sn : Int) - 1) C) := hide (by rw [← hs, decide_eq_false hy]; rfl)
        have HO := hide (fun (W : World) => within_yes (n := y) (lo := 0) (hi := (sn : Int) - 1) (by omega) W)
        clear hs hy HS
        go_wp2_with fail
        refine (HO.out _).mono ?_
        rintro e w2 ⟨rfl, rfl⟩
        go_wp2_with fail
        go_roundw
        case rel => exact ⟨j + 1, by omega, by go_num, HS2, HX⟩
        case measure => simp [intOf]; omega
    · have hjn : j = cn := by omega
      have HV := hide (HM2.out (by rw [← HS.out, List.drop_of_length_le (by have := HL.out; omega)]; rfl))
      clear hjn HS c1
      go_wp2
      go_ret
      exact ⟨ret_int HV.out.symm, EW.out⟩
end
end Go.Proofs.Ytjbgkoeojfmkkaa
