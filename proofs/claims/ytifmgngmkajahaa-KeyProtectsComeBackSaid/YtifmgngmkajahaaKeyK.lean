/- Walk of the document's Digest. Condition: the bytes' number is within the reach. -/
import Derived.Test.YtifmgngmkajahaaKeyJ
namespace Go.Proofs.Ytifmgngmkajahaa
open Go.RowKit Kc

def stN (i : Nat) : List UInt8 := (List.range i).map fun i => UInt8.ofNat i
theorem stN_succ (i : Nat) : stN i ++ [UInt8.ofNat i] = stN (i + 1) := by simp [stN, List.range_succ]
theorem length_stN (i : Nat) : (stN i).length = i := by simp [stN]
theorem stN_all : stN 16 = st0 := rfl

/-- The first i bytes, inverted. -/
def invN (p : List UInt8) (i : Nat) : List UInt8 := (p.take i).map (255 - ·)
theorem invN_succ (p : List UInt8) (i : Nat) (h : i < p.length) : invN p i ++ [255 - p.getD i 0] = invN p (i + 1) := by
  unfold invN
  rw [List.take_succ_eq_append_getElem h, List.map_append]
  simp [List.getD, h]
theorem length_invN (p : List UInt8) (i : Nat) (h : i ≤ p.length) : (invN p i).length = i := by simp [invN]; omega
theorem inv255 (y : UInt8) : B8 (255 - y) = .int .u8 (255 - (y.toNat : Int)) := by
  have := u8lt y
  refine int_val ?_
  rw [UInt8.toNat_sub_of_le _ _ (by show y.toNat ≤ 255; omega)]
  show ((255 - y.toNat : Nat) : Int) = _
  omega
theorem xrL8 (l m : List UInt8) (h : l.length = 8) : xrL l m = xor8 l m := by unfold xrL xor8; rw [h]

set_option maxRecDepth 100000 in
set_option maxHeartbeats 4000000 in
theorem refDigest_any {A : Option Addr} {n c : Nat} {l : List UInt8} {w : World} (h : At w 1 e8 A n c l) (hb : n ≤ 140737488351232) :
    Calls Try.prog 22 #[.slice A n c] w fun e w' => ∃ g cs, e = .returned (.slice (some ⟨g, 0, none⟩) 16 cs) ∧ Own w' w.heap.size 5 1 e8 (.slice (some ⟨g, 0, none⟩) 16 cs) (digest l) ∧ Ext w w' := by
  obtain ⟨i0, hi0, hz0, hz1, hz2⟩ := info_parts Try.info5
  have hl := h.len
  have hL := hide hl
  have H := hide h
  clear h
  go_enter Try.func22, Try.ntmps22
  go_wp2_with fail
  refine (cloneB_any H.out (by omega)).mono ?_
  rintro e w1 ⟨A1, c1, rfl, o1, n1, e1⟩
  have z1 := e1.size
  have O1 := hide (Own.ext o1 (Ext.alloc w1 (.cells #[B8 128] 5)))
  have HX1 := hide e1
  have A1 := hide (At.one8 w1 128)
  clear o1 n1 e1
  go_wp2_with (at_builtin; refine wpList_append_at _ rfl (.tmp 14) (.tmp 15) 22 rfl w.heap.size 5 i0 _ 1 Try.underlying22 hi0 hz0 hz1 hz2 rfl (by omega) len_e8 one_e8 _ l rfl O1.out (some ⟨w1.heap.size, 0, none⟩) 1 1 [128] rfl A1.out ?b4 ?b5 ?b6 ?_)
  case b4 => rw [hL.out]; unfold maxLen; omega
  case b5 => rw [hL.out]; omega
  case b6 => simp; omega
  intro v2 w2 o2 g2 _ _
  have E1 : Ext w (w1.alloc (.cells #[B8 128] 5)) := by have h1 := HX1.out; exact (by repeat' (first | (with_reducible exact Below.refl _ _) | (with_reducible assumption) | (with_reducible refine below_drewN ?_ _) | (with_reducible refine Below.drew ?_) | (with_reducible refine ext_alloc ?_ _) | (with_reducible refine Below.setCell ?_ ?_ _) | go_size))
  have X2 : Ext w w2 := O1.out.below E1 g2 (Nat.le_refl _)
  obtain ⟨A2, c2, hv2, _⟩ := o2.at_ len_e8
  rw [List.length_append, hL.out] at hv2
  have hv2' : v2 = .slice A2 (n + 1) c2 := hv2
  rw [hv2'] at o2 ⊢
  have O2 : Hid (Own w2 w.heap.size 5 1 e8 (.slice A2 (n + 1) c2) (digT l 0)) := hide (by rw [digT_zero]; exact o2)
  have HX2 := hide X2
  clear O1 HX1 A1 o2 g2 E1 X2 z1 hv2 hv2'
  go_wp2_with fail
  have hpz : padZ n ≤ 15 := by unfold padZ; omega
  go_loopw [3] (fun rt wr => ∃ (A' : Option Addr) (c' k : Nat), rt = .slice A' (n + 1 + k) c' ∧ k ≤ padZ n ∧ Hid (Own wr w.heap.size 5 1 e8 (.slice A' (n + 1 + k) c') (digT l k)) ∧ Hid (Ext w wr)) (fun rt _ => n + 1 + padZ n - lenV rt)
  case atStart => exact ⟨A2, c2, 0, rfl, Nat.zero_le _, O2, HX2⟩
  case round =>
    obtain ⟨A', c', k, rfl, hk, HO, HX⟩ := hrel
    have hbd := (HO.out.atS len_e8).bound
    have hhp := hide hpz
    by_cases hlt : k < padZ n
    · have hm2 : ((((n : Int) + 1 + (k : Int) + 8) % 16) != 0) = true := by rw [bne_iff_ne]; unfold padZ at hlt; omega
      have O3 := hide (HO.out.ext (Ext.alloc wr (.cells #[B8 0] 5)))
      have E3 : Ext w (wr.alloc (.cells #[B8 0] 5)) := by have h1 := HX.out; exact (by repeat' (first | (with_reducible exact Below.refl _ _) | (with_reducible assumption) | (with_reducible refine below_drewN ?_ _) | (with_reducible refine Below.drew ?_) | (with_reducible refine ext_alloc ?_ _) | (with_reducible refine Below.setCell ?_ ?_ _) | go_size))
      have z3 := E3.size
      have HE3 := hide E3
      have A3 := hide (At.one8 wr 0)
      have hlen : Hid ((digT l k).length = n + 1 + k) := hide (by rw [digT_len, hL.out])
      clear E3
      go_wp2_with (at_builtin; refine wpList_append_at _ rfl (.tmp 22) (.tmp 23) 22 rfl w.heap.size 5 i0 _ 1 Try.underlying22 hi0 hz0 hz1 hz2 rfl (by omega) len_e8 one_e8 (.slice A' (n + 1 + k) c') (digT l k) rfl O3.out (some ⟨wr.heap.size, 0, none⟩) 1 1 [0] rfl A3.out ?b7 ?b8 ?b9 ?_)
      case b7 => rw [hlen.out]; unfold maxLen; omega
      case b8 => rw [hlen.out]; omega
      case b9 => exact z3
      intro v4 w4 o4 g4 _ _
      have X4 : Ext w w4 := O3.out.below HE3.out g4 (Nat.le_refl _)
      obtain ⟨A4, c4, hv4, _⟩ := o4.at_ len_e8
      rw [List.length_append, hlen.out] at hv4
      have hv4' : v4 = .slice A4 (n + 1 + (k + 1)) c4 := hv4
      rw [hv4'] at o4 ⊢
      rw [digT_succ] at o4
      have O4 := hide o4
      have HX4 := hide X4
      clear o4 X4 g4 hv4 hv4' z3
      go_wp2
      go_roundw
      case rel => exact ⟨A4, c4, k + 1, rfl, by omega, O4.out, HX4.out⟩
      case measure => simp [lenV]; omega
    · have hkz : k = padZ n := by omega
      have hm2 : ((((n : Int) + 1 + (k : Int) + 8) % 16) != 0) = false := by rw [bne_eq_false_iff_eq, hkz]; unfold padZ; omega
      have HK := hide hkz
      clear hkz
      go_wp2_with fail
      refine (bytesOf_8 n _ (by omega)).mono ?_
      rintro e w5 ⟨g5, rfl, o5, e5⟩
      have O5 := hide (HO.out.ext e5)
      have A5 := hide (o5.atS len_e8)
      have E5 := hide (Ext.trans HX.out e5)
      have z5 := E5.out.size
      have hlen : Hid ((digT l k).length = n + 1 + k) := hide (by rw [digT_len, hL.out])
      clear e5 o5 HO HX hm2
      go_wp2_with (at_builtin; refine wpList_append_at _ rfl (.tmp 25) (.tmp 29) 22 rfl w.heap.size 5 i0 _ 1 Try.underlying22 hi0 hz0 hz1 hz2 rfl (by omega) len_e8 one_e8 (.slice A' (n + 1 + k) c') (digT l k) rfl O5.out (some ⟨g5, 0, none⟩) 8 8 (beL 8 n) rfl A5.out ?c1 ?c2 ?c3 ?_)
      case c1 => rw [hlen.out]; unfold maxLen; omega
      case c2 => rw [hlen.out]; omega
      case c3 => exact z5
      intro v6 w6 o6 g6 _ _
      have X6 : Ext w w6 := O5.out.below E5.out g6 (Nat.le_refl _)
      obtain ⟨A6, c6, hv6, _⟩ := o6.at_ len_e8
      rw [List.length_append, hlen.out, length_beL] at hv6
      rw [hv6] at o6 ⊢
      have hT : digT l k ++ beL 8 n = digText l := by
        rw [HK.out]; unfold digT digText; rw [hL.out]
      rw [hT] at o6
      have hlT : (digText l).length = n + 1 + k + 8 := by rw [← hT, List.length_append, hlen.out, length_beL]
      have hmod := digText_mod l
      rw [hlT] at hmod
      have HD : Hid (digN ((n + 1 + k + 8) / 16) (digText l) st0 = digest l) := hide (by unfold digest; rw [hlT])
      obtain ⟨bt, hA6, hbt, hbt'⟩ := o6.where_ (by omega) hlT
      rw [hA6] at o6 ⊢
      have HT := hide (o6.atS len_e8)
      have HX6 := hide X6
      generalize hm : n + 1 + k + 8 = m at *
      have HB := hide hb
      clear o6 X6 g6 hv6 hT z5 O5 E5 A5 hm hA6
      go_wp2_with fail
      go_loopw [4, 31] (fun r4 ri wr => ∃ i : Nat, i ≤ 16 ∧ ri = .int .i64 i ∧ Hid (Own wr w6.heap.size 5 1 e8 r4 (stN i)) ∧ Hid (Ext w6 wr)) (fun _ ri _ => 16 - (intOf ri).toNat)
      case atStart => exact ⟨0, by omega, rfl, hide (Own.nil _ _ _ _ _), hide (Ext.refl _)⟩
      case round =>
        obtain ⟨i, hi, rfl, HS, HX⟩ := hrel
        by_cases hli : i < 16
        · have A7 := At.one8 wr (UInt8.ofNat i)
          rw [ofNat8 i (by omega)] at A7
          have A7 := hide A7
          have O7 := hide (HS.out.ext (Ext.alloc wr (.cells #[.int .u8 (i : Int)] 5)))
          have E7 := hide (ext_alloc HX.out (.cells #[.int .u8 (i : Int)] 5))
          have z7 := E7.out.size
          have hl7 : Hid ((stN i).length = i) := hide (length_stN i)
          have hB := HB
          clear HS HX
          go_wp2_with (at_builtin; refine wpList_append_at _ rfl (.tmp 34) (.tmp 37) 22 rfl w6.heap.size 5 i0 _ 1 Try.underlying22 hi0 hz0 hz1 hz2 rfl (by omega) len_e8 one_e8 u4 (stN i) rfl O7.out (some ⟨wr.heap.size, 0, none⟩) 1 1 [UInt8.ofNat i] rfl A7.out ?d1 ?d2 ?d3 ?_)
          case d1 => rw [hl7.out]; unfold maxLen; omega
          case d2 => rw [hl7.out]; omega
          case d3 => exact z7
          intro v8 w8 o8 g8 _ _
          rw [stN_succ] at o8
          have O8 := hide o8
          have E8 : Hid (Ext w6 w8) := hide (O7.out.below E7.out g8 (Nat.le_refl _))
          clear o8 g8 O7 E7 z7 A7
          go_wp2
          go_roundw
          case rel => exact ⟨i + 1, by omega, by go_num, O8.out, E8.out⟩
          case measure => simp [intOf]; omega
        · have hi16 : i = 16 := by omega
          subst hi16
          rw [stN_all] at HS
          obtain ⟨A7, c7, hv7, _⟩ := HS.out.at_ len_e8
          have hl0 : st0.length = 16 := rfl
          rw [hl0] at hv7
          have HS' := HS.out
          rw [hv7] at HS' ⊢
          obtain ⟨bs, hA7, hbs, hbs'⟩ := HS'.where_ (by omega) hl0
          rw [hA7] at HS' ⊢
          have S0 := hide (HS'.more HX6.out.size)
          clear hv7 hA7 HS HS'
          go_wp2_with fail
          go_loopw [4, 6] (fun r4 ra wr => ∃ (a gs cs : Nat) (st : List UInt8), a ≤ m ∧ a % 16 = 0 ∧ ra = .int .i64 a ∧ r4 = .slice (some ⟨gs, 0, none⟩) 16 cs ∧ Hid (digN ((m - a) / 16) ((digText l).drop a) st = digest l) ∧
              Hid (Own wr w.heap.size 5 1 e8 (.slice (some ⟨gs, 0, none⟩) 16 cs) st) ∧ Hid (Ext w6 wr)) (fun _ ra _ => m - (intOf ra).toNat)
          case atStart => exact ⟨0, bs, c7, st0, by omega, by omega, rfl, rfl, hide (by simpa using HD.out), S0, HX⟩
          case round =>
            obtain ⟨a, gs, cs, st, ham, ha16, rfl, rfl, HR, HS2, HX2⟩ := hrel
            obtain ⟨wo, rfl⟩ : ∃ wo : World, wo = wr := ⟨_, rfl⟩
            by_cases hlt : a < m
            · have h16 : a + 16 ≤ m := by omega
              have hmb := HT.out.bound
              have hmc := HT.out.le
              have ic : ((a : Int) + 16) ≤ (c6 : Int) := by omega
              have jc : ¬ c6 = a := by omega
              have e16 : ((a : Int) + 16).toNat - a = 16 := by omega
              have hmx := HT.out.max
              have P0 := ((HT.out.ext HX2.out).cutAt (k := a) (by omega) (by omega)).upto (k := 16) (by omega)
              rw [Nat.mul_one, Nat.zero_add] at P0
              obtain ⟨p, hp⟩ : ∃ p, p = ((digText l).drop a).take 16 := ⟨_, rfl⟩
              rw [← hp] at P0
              have HP0 := hide P0
              have hpl : p.length = 16 := P0.len
              have HPL := hide hpl
              have HP := hide hp
              clear P0 hpl hp
              go_wp2_with fail
              clear e16
              go_loopw [8, 53] (fun r8 ri wr => ∃ i : Nat, i ≤ 16 ∧ ri = .int .i64 i ∧ Hid (Own wr wo.heap.size 5 1 e8 r8 (invN p i)) ∧ Hid (Ext wo wr)) (fun _ ri _ => 16 - (intOf ri).toNat)
              case atStart => exact ⟨0, by omega, rfl, hide (Own.nil _ _ _ _ _), hide (Ext.refl _)⟩
              case round =>
                obtain ⟨i, hi, rfl, HQ, HX3⟩ := hrel
                by_cases hli : i < 16
                · have q1 := (HP0.out.ext HX3.out).byte (k := i) (by omega)
                  have hx := hide (invN_succ p i (by have := HPL.out; omega))
                  generalize hy : p.getD i 0 = y at *
                  have hyl := u8lt y
                  clear hy
                  have A9 := At.one8 wr (255 - y)
                  rw [inv255 y] at A9
                  have HA9 := hide A9
                  have O9 := hide (HQ.out.ext (Ext.alloc wr (.cells #[.int .u8 (255 - (y.toNat : Int))] 5)))
                  have E9 := hide (ext_alloc HX3.out (.cells #[.int .u8 (255 - (y.toNat : Int))] 5))
                  have z9 := E9.out.size
                  have hl9 : Hid ((invN p i).length = i) := hide (length_invN p i (by have := HPL.out; omega))
                  clear A9 HQ
                  go_wp2_with (at_builtin; refine wpList_append_at _ rfl (.tmp 57) (.tmp 60) 22 rfl wo.heap.size 5 i0 _ 1 Try.underlying22 hi0 hz0 hz1 hz2 rfl (by omega) len_e8 one_e8 _ (invN p i) rfl O9.out (some ⟨wr.heap.size, 0, none⟩) 1 1 [255 - y] rfl HA9.out ?d4 ?d5 ?d6 ?_)
                  case d4 => rw [hl9.out]; unfold maxLen; omega
                  case d5 => rw [hl9.out]; omega
                  case d6 => exact z9
                  intro v10 w10 o10 g10 _ _
                  rw [hx.out] at o10
                  have O10 := hide o10
                  have E10 : Hid (Ext wo w10) := hide (O9.out.below E9.out g10 (Nat.le_refl _))
                  clear o10 g10 O9 E9 z9 HA9
                  go_wp2
                  go_roundw
                  case rel =>
                    first
                      | exact ⟨i + 1, by omega, by go_num, O10.out, E10.out⟩
                      | ((repeat apply Exists.intro); exact ⟨⟨i + 1, by omega, by go_num, O10.out, E10.out⟩, rfl⟩)
                  case measure => simp [intOf]; omega
                · have hi16 : i = 16 := by omega
                  subst hi16
                  have hli2 : (invN p 16).length = 16 := length_invN p 16 (by have := HPL.out; omega)
                  obtain ⟨A10, c10, hv10, _⟩ := HQ.out.at_ len_e8
                  rw [hli2] at hv10
                  have HQ' := HQ.out
                  rw [hv10] at HQ' ⊢
                  have hinv : invN p 16 = p.map (255 - ·) := by unfold invN; rw [List.take_of_length_le (by have := HPL.out; omega)]
                  rw [hinv] at HQ'
                  have Q0 := hide (HQ'.atS len_e8)
                  have S1 := (HS2.out.atS len_e8).ext HX3.out
                  have hcs := S1.le
                  have hcsb := S1.boundc
                  have Sa := hide (S1.upto (k := 8) (by omega))
                  have Sb0 := S1.cutAt (k := 8) (by omega) (by omega)
                  rw [show 0 + 8 * 1 = 8 from rfl, show 16 - 8 = 8 from rfl] at Sb0
                  have Sb := hide Sb0
                  have ics : (8 : Int) ≤ (cs : Int) := by omega
                  have jcs : ¬ cs = 8 := by omega
                  clear hv10 HQ HQ' hinv hli2 S1 Sb0
                  go_wp2_with fail
                  go_quiet (fail)
                  go_wp2_with fail
                  refine (encrypted_any (HP0.out.ext (Ext.trans HX3.out (Ext.drewN _ _))) (Sa.out.ext (Ext.drewN _ _)) (by omega) (by omega)).mono ?_
                  rintro e w11 ⟨A11, c11, rfl, o11, e11⟩
                  have X11 := hide (Ext.trans (Ext.drewN wr nq) e11)
                  have A11s := hide (o11.atS len_e8)
                  clear o11 e11
                  go_wp2_with fail
                  refine (xored_any A11s.out (Sa.out.ext X11.out) (by omega) (by omega)).mono ?_
                  rintro e w12 ⟨g12, rfl, o12, e12⟩
                  have X12 := hide (Ext.trans X11.out e12)
                  have O12 := hide o12
                  have O12lo : Hid (w6.heap.size ≤ g12) := hide (by have := (o12.lt g12 rfl).1; have := (Ext.trans HX2.out (Ext.trans HX3.out X11.out)).size; omega)
                  clear o12 e12
                  go_wp2_with fail
                  refine (encrypted_any (Q0.out.ext X12.out) (Sb.out.ext X12.out) (by omega) (by omega)).mono ?_
                  rintro e w13 ⟨A13, c13, rfl, o13, e13⟩
                  have X13 := hide (Ext.trans X12.out e13)
                  have O12a := hide (O12.out.ext e13)
                  have A13s := hide (o13.atS len_e8)
                  clear o13 e13
                  go_wp2_with fail
                  refine (xored_any A13s.out (Sb.out.ext X13.out) (by omega) (by omega)).mono ?_
                  rintro e w14 ⟨g14, rfl, o14, e14⟩
                  have X14 := hide (Ext.trans X13.out e14)
                  have O12b := hide (O12a.out.ext e14)
                  have A14s := hide (o14.atS len_e8)
                  have z12 := (Ext.trans HX6.out (Ext.trans HX2.out (Ext.trans HX3.out X11.out))).size
                  have O12c := hide (O12b.out.more z12)
                  have E14 := hide (Ext.trans HX6.out (Ext.trans HX2.out (Ext.trans HX3.out X14.out)))
                  have z14 := E14.out.size
                  clear o14 e14 O12 O12a O12b z12
                  go_wp2_with (at_builtin; refine wpList_append_at _ rfl (.tmp 71) (.tmp 76) 22 rfl w.heap.size 5 i0 _ 1 Try.underlying22 hi0 hz0 hz1 hz2 rfl (by omega) len_e8 one_e8 _ _ rfl O12c.out (some ⟨g14, 0, none⟩) 8 8 _ rfl A14s.out ?d7 ?d8 ?d9 ?_)
                  case d7 => rw [length_xrL, length_encB]; unfold maxLen; omega
                  case d8 => rw [length_xrL, length_encB]; omega
                  case d9 => exact z14
                  intro v15 w15 o15 g15 _ _
                  have X15 : Ext w w15 := O12c.out.below E14.out g15 (Nat.le_refl _)
                  have X15' : Ext w6 w15 := Below.grown (Ext.trans HX2.out (Ext.trans HX3.out X14.out)) g15 (by have := (Ext.trans HX2.out (Ext.trans HX3.out X14.out)).size; omega) (fun b hb => by
                    have hb' : g12 = b := Option.some.inj hb
                    have := O12lo.out; omega)
                  have hst : xrL (encB p (st.take 8)) (st.take 8) ++ xrL (encB (p.map (255 - ·)) (st.drop 8)) (st.drop 8) = digStep st p := by
                    rw [xrL8 _ _ (length_encB _ _), xrL8 _ _ (length_encB _ _)]; rfl
                  rw [hst] at o15
                  have hls : (digStep st p).length = 16 := rfl
                  obtain ⟨A15, c15, hv15, _⟩ := o15.at_ len_e8
                  rw [hls] at hv15
                  rw [hv15] at o15 ⊢
                  obtain ⟨b15, hA15, _, _⟩ := o15.where_ (by omega) hls
                  rw [hA15] at o15 ⊢
                  have O15 := hide o15
                  have E15 := hide X15'
                  have D15 : Hid (digN ((m - (a + 16)) / 16) ((digText l).drop (a + 16)) (digStep st p) = digest l) := hide (by
                    have q := HR.out
                    rw [show (m - a) / 16 = (m - (a + 16)) / 16 + 1 by omega, digN, ← HP.out, List.drop_drop] at q
                    exact q)
                  clear o15 g15 X15 X15' hst hls hv15 hA15 O12c E14 X14 Q0 Sa Sb X11 X12 X13 A11s A13s A14s O12lo
                  go_wp2
                  go_roundw
                  case rel =>
                    first
                      | exact ⟨a + 16, b15, c15, digStep st p, by omega, by omega, by go_num, rfl, D15, O15, E15⟩
                      | ((repeat apply Exists.intro); exact ⟨⟨a + 16, b15, c15, digStep st p, by omega, by omega, by go_num, rfl, D15, O15, E15⟩, rfl⟩)
                  case measure => simp [intOf]; omega
            · have ham' : a = m := by omega
              subst ham'
              go_wp2
              go_ret
              refine ⟨gs, cs, rfl, ?_, Ext.trans HX6.out HX2.out⟩
              have h := HR.out
              rw [Nat.sub_self, Nat.zero_div, digN] at h
              rw [← h]
              exact HS2.out
end Go.Proofs.Ytifmgngmkajahaa
