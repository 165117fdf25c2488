/- Walk: FragmentBytes (program). Conditions as stated. -/
import Derived.Test.YtgnmnhlhiiehfaaFbyP
import Derived.Test.YtgnmnhlhiiehfaaMrkA
import Derived.Deep.RegionHeld3
namespace Go.Proofs.Ytgnmnhlhiiehfaa
open Go.RowKit
theorem gives_own {w w' : World} {base : Nat} {v : Value} {l m : List UInt8} {f g : Int} (hf : f = g) (hl : m = l) (ho : Own w' base 5 1 e8 v m) (h : Ext w w') : Gives 1 e8 w l f (.returned (.tuple #[v, .int .i64 g])) w' := by
  obtain ⟨A, c, rfl, hat⟩ := ho.at_ len_e8
  exact gives_at hf hl hat h
theorem appN {w0 w : World} {base n : Nat} {v : Value} {l : List UInt8} (many : Nat) (k : Int) (hk : (many : Int) = k) (ho : Own w base 5 1 e8 v l) (he : Ext w0 w) (hb : w0.heap.size ≤ base) (hbw : base ≤ w.heap.size) (hm : many ≤ 8) (hn : n < 18446744073709551616) (hl : l.length ≤ 1000000000) :
    Calls Try.prog 48 #[v, .int .u64 (n : Int), .int .i64 k] w (AppGives w0 base (l ++ beN many n)) := by
  rw [← hk]; exact appendNumber_any ho he hb hbw hm hn hl
/-- What FragmentBytes gives. -/
def fbyL (num : Int) (l : List Smp) : List UInt8 := if fragF num l = 0 then fbytes num l else []
set_option linter.unusedVariables false in
set_option linter.unusedSimpArgs false in
set_option maxRecDepth 100000 in
set_option maxHeartbeats 8000000 in
theorem keyFbytes_any {num : Int} {A : Option Addr} {n c : Nat} {l : List Smp} {w : World} (h : At w 5 eSm A n c l) :
    Calls Try.prog 24 #[.agg #[.int .i64 num, .slice A n c]] w (Gives 1 e8 w (fbyL num l) (fragF num l)) := by
  have HB := hide (Blk.new w 35 #[.int .i64 num, .slice A n c])
  by_cases hr : num < 0 ∨ 4294967295 < num
  · have HF : Hid (fragF num l = 1) := hide (by unfold fragF; rw [if_pos hr])
    have HL : Hid (fbyL num l = []) := hide (by unfold fbyL; rw [if_neg (by rw [HF.out]; omega)])
    have HO := hide (fun (W : World) => out_yes (lo := 0) (hi := 4294967295) hr W)
    clear h hr
    go_enter Try.func24, Try.ntmps24
    go_wp2_with fail
    with_reducible refine (HO.out _).mono ?_
    rintro e w' ⟨rfl, rfl⟩
    go_wp2_with fail
    refine bodyPost_ret (v := .tuple #[.slice none 0 0, .int .i64 1]) (by simp [results, Try.results24, go_sem]) rfl (gives_nil' HF.out HL.out (Ext.alloc _ _))
  have hr' : 0 ≤ num ∧ num ≤ 4294967295 := by omega
  have HO := hide (fun (W : World) => out_no (lo := 0) (hi := 4294967295) hr' W)
  have HC := hide (keySamples_any (h.ext (Ext.alloc w (.cells #[.int .i64 num, .slice A n c] 35))))
  have HFG : Hid (fragF num l = smpF l) := hide (by unfold fragF; rw [if_neg hr])
  clear hr
  by_cases hs0 : smpF l = 0
  case neg =>
    have HL : Hid (fbyL num l = []) := hide (by unfold fbyL; rw [if_neg (by rw [HFG.out]; exact hs0)])
    generalize smpF l = fl at *
    have d0 : (fl != 0) = true := by simp [hs0]
    clear h hs0 hr'
    go_enter Try.func24, Try.ntmps24
    go_wp2_with fail
    with_reducible refine (HO.out _).mono ?_
    rintro e w' ⟨rfl, rfl⟩
    go_wp2_with fail
    with_reducible refine HC.out.mono ?_
    rintro e w1 ⟨rfl, e1⟩
    have E1 := hide e1
    clear e1
    go_wp2_with fail
    refine bodyPost_ret (v := .tuple #[.slice none 0 0, .int .i64 fl]) (by simp [results, Try.results24, go_sem]) rfl (gives_nil' HFG.out HL.out (Ext.trans (Ext.alloc _ _) E1.out))
  case pos =>
  have HR : Hid (fragF num l = 0 ∧ fbyL num l = fbytes num l) := hide ⟨by rw [HFG.out, hs0], by unfold fbyL; rw [if_pos (by rw [HFG.out, hs0])]⟩
  have hn5 : n ≤ 5000 := by have := (smpF_zero hs0).1; have := h.len; omega
  have HBD := hide (fun (i : Nat) (hi : i < l.length) => badS_ok (smpEl_zero ((smpF_zero hs0).2.1 i hi)).1)
  rw [hs0] at HC
  have H := hide h
  have HL := hide h.len
  have HMK := hide (fun (W : World) (hW : Ext w W) => keyMarks_any (h.ext hW))
  have hbx : w.heap.size < (w.alloc (.cells #[.int .i64 num, .slice A n c] 35)).heap.size := HB.out.lt
  have HA1 := hide (mkN_and1 l)
  have HA2 := hide (mkN_and2 l)
  have HA4 := hide (mkN_and4 l)
  have HA8 := hide (mkN_and8 l)
  have hm16 := mkN_lt l
  have HHD : Hid (fhead num l = beN 4 (u64n num) ++ beN 8 (u64n (timeS l)) ++ beN 2 (u64n l.length) ++ [UInt8.ofNat (mkN l)]) := hide rfl
  obtain ⟨m, hm⟩ : ∃ m, m = mkN l := ⟨_, rfl⟩
  rw [← hm] at HA1 HA2 HA4 HA8 hm16 HHD
  have HM := hide hm
  clear h hs0 hm
  have q1 : bits .and .u8 (m : Int) 1 = if mS l = true then 1 else 0 := by rw [u8_and _ _ (by omega) (by omega) (by omega) (by omega)]; have := HA1.out; simp only [Int.toNat_natCast]; rw [show (1 : Int).toNat = 1 from rfl, this]; split <;> rfl
  have q2 : bits .and .u8 (m : Int) 2 = if mH l = true then 2 else 0 := by rw [u8_and _ _ (by omega) (by omega) (by omega) (by omega)]; have := HA2.out; simp only [Int.toNat_natCast]; rw [show (2 : Int).toNat = 2 from rfl, this]; split <;> rfl
  have q4 : bits .and .u8 (m : Int) 4 = if mZ l = true then 4 else 0 := by rw [u8_and _ _ (by omega) (by omega) (by omega) (by omega)]; have := HA4.out; simp only [Int.toNat_natCast]; rw [show (4 : Int).toNat = 4 from rfl, this]; split <;> rfl
  have q8 : bits .and .u8 (m : Int) 8 = if mK l = true then 8 else 0 := by rw [u8_and _ _ (by omega) (by omega) (by omega) (by omega)]; have := HA8.out; simp only [Int.toNat_natCast]; rw [show (8 : Int).toNat = 8 from rfl, this]; split <;> rfl
  have Q1 := hide q1
  have Q2 := hide q2
  have Q4 := hide q4
  have Q8 := hide q8
  clear q1 q2 q4 q8 HA1 HA2 HA4 HA8
  have HLEN : Hid (∀ k, k ≤ n → (fb1 num l k).length ≤ 1000000 ∧ (fb2 num l k).length ≤ 1000000 ∧ (fb3 num l k).length ≤ 1000000 ∧ (fb4 num l k).length ≤ 1000000) := hide (fun k hk => by
    have hl := HL.out
    have h1 := fb1_le num l k
    have h2 := fb2_le num l k
    have h3 := fb3_le num l k
    have h4 := fb4_le num l k
    rw [hl] at h2 h3 h4
    exact ⟨by omega, by omega, by omega, by omega⟩)
  go_enter Try.func24, Try.ntmps24
  go_wp2_with fail
  with_reducible refine (HO.out _).mono ?_
  rintro e w' ⟨rfl, rfl⟩
  go_wp2_with fail
  with_reducible refine HC.out.mono ?_
  rintro e w1 ⟨rfl, e1⟩
  have E1 : Hid (Ext w w1) := hide (Ext.trans (Ext.alloc _ _) e1)
  have B1 := hide (HB.out.ext e1)
  have a1 : w1.cell? ⟨w.heap.size, 1, none⟩ = some (.slice A n c) := B1.out.cell 1
  clear e1 HC HO HB hbx
  go_wp2_with fail
  have EX := Ext.drew w1
  go_region_held3 (fun w' => w'.cell? ⟨w.heap.size, 1, none⟩ = some (.slice A n c)) (first | go_keep | exact EX.cell a1) (((go_at_call 44; with_reducible refine (HMK.out _ (Ext.trans E1.out EX)).mono ?_); rintro e w2 ⟨rfl, e2⟩; have EX := Ext.trans EX e2))
  rw [← HM.out]
  have E2 := hide (Ext.trans E1.out EX)
  have B2 := hide (B1.out.ext EX)
  clear EX a1 B1 E1
  have HW0 := hide (fun (W : World) (hW : Ext w W) => hW.size)
  go_upto_if 34 with (fail)
  go_cut [5] (fun s5 wx => s5 = .int .i64 (timeS l) ∧ Hid (Ext w wx) ∧ Hid (Blk wx w.heap.size 35 #[.int .i64 num, .slice A n c]))
  case first =>
    rcases Nat.eq_zero_or_pos n with hn0 | hn0
    · have HT : Hid (timeS l = 0) := hide (by unfold timeS; rw [if_neg (by have := HL.out; omega)])
      have i0 : ¬ (0 : Int) < (n : Int) := by omega
      have i1 : decide ((0 : Int) < (n : Int)) = false := by simp; omega
      have i2 : decide (0 < n) = false := by simp; omega
      clear hn0
      go_wp2_with fail
      go_meet
      exact ⟨by rw [HT.out], E2, B2⟩
    · have HT : Hid (timeS l = (l.getD 0 dS).time) := hide (by unfold timeS; rw [if_pos (by have := HL.out; omega)])
      obtain ⟨b, off, rfl, _⟩ := H.out.addr hn0
      have c0 := (H.out.ext E2.out).cellK (k := 0) hn0 dS 0 _ rfl
      rw [Nat.zero_mul, Nat.add_zero] at c0
      generalize (l.getD 0 dS).time = t00 at *
      have i0 : (0 : Int) < (n : Int) := by omega
      have i1 : decide ((0 : Int) < (n : Int)) = true := by simp; omega
      have i2 : decide (0 < n) = true := by simp; omega
      go_wp2_with fail
      go_meet
      exact ⟨by rw [HT.out], E2, B2⟩
  case rest =>
  obtain ⟨rfl, E3, B3⟩ := hcut
  have b0 : wc.cell? ⟨w.heap.size, 0, none⟩ = some (.int .i64 num) := B3.out.cell 0
  have u1 := u64n_val num
  have u2 := u64n_val (timeS l)
  have u3 : (n : Int) = (u64n l.length : Int) := by have := HL.out; rw [u64n_pos (by omega) (by omega)]; omega
  have u3b : IntKind.u64.wrap (n : Int) = (n : Int) := by rw [IntKind.wrap_u64]; omega
  have HP1 := hide (fun (W : World) (hW : Ext w W) => appN 4 4 rfl (v := .slice none 0 0) (l := []) (n := u64n num) (Own.nil W w.heap.size _ _ _) hW (Nat.le_refl _) hW.size (by omega) (u64n_lt _) (by simp))
  have HNV := hide u3
  clear u3 B2 E2
  have hnum : IntKind.u64.wrap num = num := by rw [IntKind.wrap_u64]; omega
  have HP1 := hide (fun (W : World) (hW : Ext w W) => (by have := HP1.out W hW; rw [← u1, hnum] at this; exact this : Calls Try.prog 48 #[.slice none 0 0, .int .u64 num, .int .i64 4] W (AppGives w w.heap.size ([] ++ beN 4 (u64n num)))))
  have HP2 := hide (fun (W : World) (v : Value) (hv : Own W w.heap.size 5 1 e8 v ([] ++ beN 4 (u64n num))) (hW : Ext w W) => appN 8 8 rfl (n := u64n (timeS l)) hv hW (Nat.le_refl _) hW.size (by omega) (u64n_lt _) (by simp [beN_len]))
  have HP3 := hide (fun (W : World) (v : Value) (hv : Own W w.heap.size 5 1 e8 v ([] ++ beN 4 (u64n num) ++ beN 8 (u64n (timeS l)))) (hW : Ext w W) => (by have := appN 2 2 rfl (n := u64n l.length) hv hW (Nat.le_refl _) hW.size (by omega) (u64n_lt _) (by simp [beN_len]); rw [← HNV.out] at this; exact this : Calls Try.prog 48 #[v, .int .u64 (n : Int), .int .i64 2] W (AppGives w w.heap.size ([] ++ beN 4 (u64n num) ++ beN 8 (u64n (timeS l)) ++ beN 2 (u64n l.length)))))
  have U2 := hide u2
  generalize hu2 : u64n (timeS l) = t8 at *
  have HT8 := hide hu2
  clear u1 hu2
  go_wp2_with fail
  with_reducible refine (HP1.out _ E3.out).mono ?_
  rintro e w4 ⟨v4, rfl, o4, e4⟩
  have O4 := hide o4
  have E4 := hide e4
  clear o4 e4 b0
  go_wp2_with fail
  with_reducible refine (HP2.out _ _ O4.out E4.out).mono ?_
  rintro e w5 ⟨v5, rfl, o5, e5⟩
  have O5 := hide o5
  have E5 := hide e5
  clear o5 e5
  go_wp2_with fail
  with_reducible refine (HP3.out _ _ O5.out E5.out).mono ?_
  rintro e w6 ⟨v6, rfl, o6, e6⟩
  have O6 := hide o6
  have E6 := hide e6
  clear o6 e6 u2 u3b hnum
  obtain ⟨i0_, hi0, hz0, hz1, hz2⟩ := info_parts Try.info5
  have HU : Hid (e8 (UInt8.ofNat m) = [.int .u8 (m : Int)]) := hide (by show [Value.int .u8 ((UInt8.ofNat m).toNat : Int)] = _; rw [UInt8.toNat_ofNat']; congr 2; omega)
  have S1 : Hid (([] ++ beN 4 (u64n num) ++ beN 8 t8 ++ beN 2 (u64n l.length)).length + 1 ≤ maxLen) := hide (by simp [beN_len, maxLen])
  have S2 : Hid ((([] ++ beN 4 (u64n num) ++ beN 8 t8 ++ beN 2 (u64n l.length)).length + 1) * 1 ≤ 140737488355328) := hide (by simp [beN_len])
  have S3 : Hid (w.heap.size ≤ (w6.alloc (.cells #[.int .u8 (m : Int)] 5)).heap.size) := hide (by rw [World.size_alloc]; have := E6.out.size; omega)
  go_upto_region 12 with ((at_builtin; refine wpList_append_at _ rfl (.tmp 51) (.tmp 53) 22 rfl w.heap.size 5 i0_ _ 1 Try.underlying22 hi0 hz0 hz1 hz2 rfl (by omega) len_e8 one_e8 v6 _ (by rfl) (O6.out.ext (Ext.alloc _ _)) (some ⟨w6.heap.size, 0, none⟩) 1 1 [UInt8.ofNat m] (by rfl) (At.new1 w6 _ _ HU.out _) S1.out S2.out S3.out ?_; intro v7 w7 o7 g7 _ _; have O7 := hide o7; have G7 := hide g7; clear o7 g7))
  have E7 := hide (O7b E6.out O6.out G7.out (Nat.le_refl _))
  have O8 : Hid (Own w7 w.heap.size 5 1 e8 v7 (fb1 num l 0)) := hide (by have := O7.out; unfold fb1; rw [colL_zero, List.append_nil, HHD.out, ← HT8.out] at *; simpa using this)
  clear O7 G7 O6 E6 O5 E5 O4 E4 HP1 HP2 HP3 S1 S2 S3 HU hi0 hz0 hz1 hz2
  have HS1 : Hid (mS l = true ∨ mS l = false) := hide (by cases mS l <;> simp)
  go_wp2_with fail
  go_loopw [8, 57] (fun r8 ri wr => ∃ k : Nat, k ≤ n ∧ ri = .int .i64 k ∧ Hid (Own wr w.heap.size 5 1 e8 r8 (fb1 num l k)) ∧ Hid (Ext w wr)) (fun _ ri _ => n - (intOf ri).toNat)
  case atStart => exact ⟨0, by omega, rfl, O8, E7⟩
  case round =>
    obtain ⟨k, hk, rfl, HK, HX⟩ := hrel
    by_cases hlt : k < n
    · obtain ⟨b, off, rfl, _⟩ := H.out.addr (by omega)
      have hat := H.out.ext HX.out
      have a0 := hat.cellK hlt dS 0 _ rfl
      have a1 := hat.cellK hlt dS 1 _ rfl
      have a2 := hat.cellK hlt dS 2 _ rfl
      have a3 := hat.cellK hlt dS 3 _ rfl
      have a4 := hat.cellK hlt dS 4 _ rfl
      rw [Nat.add_zero] at a0
      have hbd := HBD.out k (by have := HL.out; omega)
      have hle := (HLEN.out k (by omega)).1
      have HSU : Hid (fb1 num l (k + 1) = fb1 num l k ++ if k = 0 ∨ mS l = false then beN 4 (u64n (l.getD k dS).step) else []) := hide (by unfold fb1; rw [colL_succ, ← List.append_assoc])
      generalize (l.getD k dS).time = tm at *
      generalize (l.getD k dS).step = st at *
      generalize (l.getD k dS).shift = sh at *
      generalize (l.getD k dS).size = sz at *
      generalize (l.getD k dS).key = ky at *
      have EAL : Hid (Ext w (wr.alloc (.cells #[.int .i64 tm, .int .i64 st, .int .i64 sh, .int .i64 sz, .bool ky] 40))) := hide (Ext.trans HX.out (Ext.alloc _ _))
      have i0 : (k : Int) < (n : Int) := by omega
      have i8 : IntKind.i64.wrap ((k : Int) + 1) = (k : Int) + 1 := by rw [IntKind.wrap_i64]; omega
      clear hat
      rcases Nat.eq_zero_or_pos k with hk0 | hk0
      · have d0 : ((k : Int) == 0) = true := by rw [beq_iff_eq]; omega
        have HV : Hid (fb1 num l (k + 1) = fb1 num l k ++ beN 4 (u64n st)) := hide (by rw [HSU.out, if_pos (.inl hk0)])
        have uv := u64n_val st
        have uw : IntKind.u64.wrap st = st := by rw [IntKind.wrap_u64]; omega
        have HAP := hide (appN 4 4 rfl (n := u64n st) (HK.out.ext (Ext.alloc wr (.cells #[.int .i64 tm, .int .i64 st, .int .i64 sh, .int .i64 sz, .bool ky] 40))) EAL.out (Nat.le_refl _) EAL.out.size (by omega) (u64n_lt _) (by omega))
        rw [← uv, uw] at HAP
        rw [← HV.out] at HAP
        clear uv
        clear hk0
        go_wp2_with fail
        with_reducible refine HAP.out.mono ?_
        rintro e w9 ⟨v9, rfl, o9, e9⟩
        have O9 := hide o9
        have E9 := hide e9
        clear o9 e9
        go_wp2_with fail
        exact ⟨⟨k + 1, by omega, by go_num, O9, E9⟩, by simp [intOf]; omega⟩
      · have d0 : ((k : Int) == 0) = false := by rw [beq_eq_false_iff_ne]; omega
        cases hmk : mS l with
        | true =>
          have qq := Q1.out
          rw [hmk] at qq
          simp only [if_true] at qq
          have HV : Hid (fb1 num l (k + 1) = fb1 num l k) := hide (by rw [HSU.out, if_neg (by rw [hmk]; simp; omega), List.append_nil])
          have HK2 := hide (HK.out.ext (Ext.alloc wr (.cells #[.int .i64 tm, .int .i64 st, .int .i64 sh, .int .i64 sz, .bool ky] 40)))
          rw [← HV.out] at HK2
          clear hmk
          go_wp2_with fail
          exact ⟨⟨k + 1, by omega, by go_num, HK2, EAL⟩, by simp [intOf]; omega⟩
        | false =>
          have qq := Q1.out
          rw [hmk] at qq
          simp only [Bool.false_eq_true, if_false] at qq
          have HV : Hid (fb1 num l (k + 1) = fb1 num l k ++ beN 4 (u64n st)) := hide (by rw [HSU.out, if_pos (.inr hmk)])
          have uv := u64n_val st
          have uw : IntKind.u64.wrap st = st := by rw [IntKind.wrap_u64]; omega
          have HAP := hide (appN 4 4 rfl (n := u64n st) (HK.out.ext (Ext.alloc wr (.cells #[.int .i64 tm, .int .i64 st, .int .i64 sh, .int .i64 sz, .bool ky] 40))) EAL.out (Nat.le_refl _) EAL.out.size (by omega) (u64n_lt _) (by omega))
          rw [← uv, uw] at HAP
          rw [← HV.out] at HAP
          clear uv
          clear hmk
          go_wp2_with fail
          with_reducible refine HAP.out.mono ?_
          rintro e w9 ⟨v9, rfl, o9, e9⟩
          have O9 := hide o9
          have E9 := hide e9
          clear o9 e9
          go_wp2_with fail
          exact ⟨⟨k + 1, by omega, by go_num, O9, E9⟩, by simp [intOf]; omega⟩
    · obtain rfl : n = k := by omega
      have i0 : ¬ (n : Int) < (n : Int) := by omega
      have HNX : Hid (fb2 num l 0 = fb1 num l n) := hide (by unfold fb2 colH; have := HL.out; rw [this]; split <;> simp [colL_zero])
      have ON := hide HK.out
      rw [← HNX.out] at ON
      have EN := hide HX.out
      clear HK HX HNX hk hlt HS1
      have HS2 : Hid (mH l = true ∨ mH l = false) := hide (by cases mH l <;> simp)
      go_wp2_with fail
      go_loopw [8, 77] (fun r8 ri wr => ∃ k : Nat, k ≤ n ∧ ri = .int .i64 k ∧ Hid (Own wr w.heap.size 5 1 e8 r8 (fb2 num l k)) ∧ Hid (Ext w wr)) (fun _ ri _ => n - (intOf ri).toNat)
      case atStart => exact ⟨0, by omega, rfl, ON, EN⟩
      case round =>
        obtain ⟨k, hk, rfl, HK, HX⟩ := hrel
        by_cases hlt : k < n
        · obtain ⟨b, off, rfl, _⟩ := H.out.addr (by omega)
          have hat := H.out.ext HX.out
          have a0 := hat.cellK hlt dS 0 _ rfl
          have a1 := hat.cellK hlt dS 1 _ rfl
          have a2 := hat.cellK hlt dS 2 _ rfl
          have a3 := hat.cellK hlt dS 3 _ rfl
          have a4 := hat.cellK hlt dS 4 _ rfl
          rw [Nat.add_zero] at a0
          have hbd := HBD.out k (by have := HL.out; omega)
          have hle := (HLEN.out k (by omega)).2.1
          have HSU : Hid (fb2 num l (k + 1) = fb2 num l k ++ if mH l = true then [] else beN 4 (u64n (l.getD k dS).shift)) := hide (by unfold fb2 colH; split <;> simp [colL_succ])
          generalize (l.getD k dS).time = tm at *
          generalize (l.getD k dS).step = st at *
          generalize (l.getD k dS).shift = sh at *
          generalize (l.getD k dS).size = sz at *
          generalize (l.getD k dS).key = ky at *
          have EAL : Hid (Ext w (wr.alloc (.cells #[.int .i64 tm, .int .i64 st, .int .i64 sh, .int .i64 sz, .bool ky] 40))) := hide (Ext.trans HX.out (Ext.alloc _ _))
          have i0 : (k : Int) < (n : Int) := by omega
          have i8 : IntKind.i64.wrap ((k : Int) + 1) = (k : Int) + 1 := by rw [IntKind.wrap_i64]; omega
          clear hat
          cases hmk : mH l with
          | true =>
            have qq := Q2.out
            rw [hmk] at qq
            simp only [if_true] at qq
            have HV : Hid (fb2 num l (k + 1) = fb2 num l k) := hide (by rw [HSU.out, if_pos hmk, List.append_nil])
            have HK2 := hide (HK.out.ext (Ext.alloc wr (.cells #[.int .i64 tm, .int .i64 st, .int .i64 sh, .int .i64 sz, .bool ky] 40)))
            rw [← HV.out] at HK2
            clear hmk
            go_wp2_with fail
            exact ⟨⟨k + 1, by omega, by go_num, HK2, EAL⟩, by simp [intOf]; omega⟩
          | false =>
            have qq := Q2.out
            rw [hmk] at qq
            simp only [Bool.false_eq_true, if_false] at qq
            have HV : Hid (fb2 num l (k + 1) = fb2 num l k ++ beN 4 (u64n sh)) := hide (by rw [HSU.out, if_neg (by rw [hmk]; simp)])
            have uv := u64n_val sh
            have HAP := hide (appN 4 4 rfl (n := u64n sh) (HK.out.ext (Ext.alloc wr (.cells #[.int .i64 tm, .int .i64 st, .int .i64 sh, .int .i64 sz, .bool ky] 40))) EAL.out (Nat.le_refl _) EAL.out.size (by omega) (u64n_lt _) (by omega))
            rw [← HV.out] at HAP
            clear hmk
            go_wp2_with fail
            with_reducible refine HAP.out.mono ?_
            rintro e w9 ⟨v9, rfl, o9, e9⟩
            have O9 := hide o9
            have E9 := hide e9
            clear o9 e9
            go_wp2_with fail
            exact ⟨⟨k + 1, by omega, by go_num, O9, E9⟩, by simp [intOf]; omega⟩
        · obtain rfl : n = k := by omega
          have i0 : ¬ (n : Int) < (n : Int) := by omega
          have HNX : Hid (fb3 num l 0 = fb2 num l n) := hide (by unfold fb3; have := HL.out; rw [this, colL_zero]; simp)
          have ON := hide HK.out
          rw [← HNX.out] at ON
          have EN := hide HX.out
          clear HK HX HNX hk hlt HS2
          have HS3 : Hid (mZ l = true ∨ mZ l = false) := hide (by cases mZ l <;> simp)
          go_wp2_with fail
          go_loopw [8, 92] (fun r8 ri wr => ∃ k : Nat, k ≤ n ∧ ri = .int .i64 k ∧ Hid (Own wr w.heap.size 5 1 e8 r8 (fb3 num l k)) ∧ Hid (Ext w wr)) (fun _ ri _ => n - (intOf ri).toNat)
          case atStart => exact ⟨0, by omega, rfl, ON, EN⟩
          case round =>
            obtain ⟨k, hk, rfl, HK, HX⟩ := hrel
            by_cases hlt : k < n
            · obtain ⟨b, off, rfl, _⟩ := H.out.addr (by omega)
              have hat := H.out.ext HX.out
              have a0 := hat.cellK hlt dS 0 _ rfl
              have a1 := hat.cellK hlt dS 1 _ rfl
              have a2 := hat.cellK hlt dS 2 _ rfl
              have a3 := hat.cellK hlt dS 3 _ rfl
              have a4 := hat.cellK hlt dS 4 _ rfl
              rw [Nat.add_zero] at a0
              have hbd := HBD.out k (by have := HL.out; omega)
              have hle := (HLEN.out k (by omega)).2.2.1
              have HSU : Hid (fb3 num l (k + 1) = fb3 num l k ++ if k = 0 ∨ mZ l = false then beN 4 (u64n (l.getD k dS).size) else []) := hide (by unfold fb3; rw [colL_succ, ← List.append_assoc])
              generalize (l.getD k dS).time = tm at *
              generalize (l.getD k dS).step = st at *
              generalize (l.getD k dS).shift = sh at *
              generalize (l.getD k dS).size = sz at *
              generalize (l.getD k dS).key = ky at *
              have EAL : Hid (Ext w (wr.alloc (.cells #[.int .i64 tm, .int .i64 st, .int .i64 sh, .int .i64 sz, .bool ky] 40))) := hide (Ext.trans HX.out (Ext.alloc _ _))
              have i0 : (k : Int) < (n : Int) := by omega
              have i8 : IntKind.i64.wrap ((k : Int) + 1) = (k : Int) + 1 := by rw [IntKind.wrap_i64]; omega
              clear hat
              rcases Nat.eq_zero_or_pos k with hk0 | hk0
              · have d0 : ((k : Int) == 0) = true := by rw [beq_iff_eq]; omega
                have HV : Hid (fb3 num l (k + 1) = fb3 num l k ++ beN 4 (u64n sz)) := hide (by rw [HSU.out, if_pos (.inl hk0)])
                have uv := u64n_val sz
                have uw : IntKind.u64.wrap sz = sz := by rw [IntKind.wrap_u64]; omega
                have HAP := hide (appN 4 4 rfl (n := u64n sz) (HK.out.ext (Ext.alloc wr (.cells #[.int .i64 tm, .int .i64 st, .int .i64 sh, .int .i64 sz, .bool ky] 40))) EAL.out (Nat.le_refl _) EAL.out.size (by omega) (u64n_lt _) (by omega))
                rw [← uv, uw] at HAP
                rw [← HV.out] at HAP
                clear uv
                clear hk0
                go_wp2_with fail
                with_reducible refine HAP.out.mono ?_
                rintro e w9 ⟨v9, rfl, o9, e9⟩
                have O9 := hide o9
                have E9 := hide e9
                clear o9 e9
                go_wp2_with fail
                exact ⟨⟨k + 1, by omega, by go_num, O9, E9⟩, by simp [intOf]; omega⟩
              · have d0 : ((k : Int) == 0) = false := by rw [beq_eq_false_iff_ne]; omega
                cases hmk : mZ l with
                | true =>
                  have qq := Q4.out
                  rw [hmk] at qq
                  simp only [if_true] at qq
                  have HV : Hid (fb3 num l (k + 1) = fb3 num l k) := hide (by rw [HSU.out, if_neg (by rw [hmk]; simp; omega), List.append_nil])
                  have HK2 := hide (HK.out.ext (Ext.alloc wr (.cells #[.int .i64 tm, .int .i64 st, .int .i64 sh, .int .i64 sz, .bool ky] 40)))
                  rw [← HV.out] at HK2
                  clear hmk
                  go_wp2_with fail
                  exact ⟨⟨k + 1, by omega, by go_num, HK2, EAL⟩, by simp [intOf]; omega⟩
                | false =>
                  have qq := Q4.out
                  rw [hmk] at qq
                  simp only [Bool.false_eq_true, if_false] at qq
                  have HV : Hid (fb3 num l (k + 1) = fb3 num l k ++ beN 4 (u64n sz)) := hide (by rw [HSU.out, if_pos (.inr hmk)])
                  have uv := u64n_val sz
                  have uw : IntKind.u64.wrap sz = sz := by rw [IntKind.wrap_u64]; omega
                  have HAP := hide (appN 4 4 rfl (n := u64n sz) (HK.out.ext (Ext.alloc wr (.cells #[.int .i64 tm, .int .i64 st, .int .i64 sh, .int .i64 sz, .bool ky] 40))) EAL.out (Nat.le_refl _) EAL.out.size (by omega) (u64n_lt _) (by omega))
                  rw [← uv, uw] at HAP
                  rw [← HV.out] at HAP
                  clear uv
                  clear hmk
                  go_wp2_with fail
                  with_reducible refine HAP.out.mono ?_
                  rintro e w9 ⟨v9, rfl, o9, e9⟩
                  have O9 := hide o9
                  have E9 := hide e9
                  clear o9 e9
                  go_wp2_with fail
                  exact ⟨⟨k + 1, by omega, by go_num, O9, E9⟩, by simp [intOf]; omega⟩
            · obtain rfl : n = k := by omega
              have i0 : ¬ (n : Int) < (n : Int) := by omega
              have HNX : Hid (fb4 num l 0 = fb3 num l n) := hide (by unfold fb4; have := HL.out; rw [this, keyL_zero]; simp)
              have ON := hide HK.out
              rw [← HNX.out] at ON
              have EN := hide HX.out
              clear HK HX HNX hk hlt HS3
              have HS4 : Hid (mK l = true ∨ mK l = false) := hide (by cases mK l <;> simp)
              go_wp2_with fail
              go_loopw [8, 112] (fun r8 ri wr => ∃ k : Nat, k ≤ n ∧ ri = .int .i64 k ∧ Hid (Own wr w.heap.size 5 1 e8 r8 (fb4 num l k)) ∧ Hid (Ext w wr)) (fun _ ri _ => n - (intOf ri).toNat)
              case atStart => exact ⟨0, by omega, rfl, ON, EN⟩
              case round =>
                obtain ⟨k, hk, rfl, HK, HX⟩ := hrel
                by_cases hlt : k < n
                · obtain ⟨b, off, rfl, _⟩ := H.out.addr (by omega)
                  have hat := H.out.ext HX.out
                  have a0 := hat.cellK hlt dS 0 _ rfl
                  have a1 := hat.cellK hlt dS 1 _ rfl
                  have a2 := hat.cellK hlt dS 2 _ rfl
                  have a3 := hat.cellK hlt dS 3 _ rfl
                  have a4 := hat.cellK hlt dS 4 _ rfl
                  rw [Nat.add_zero] at a0
                  have hbd := HBD.out k (by have := HL.out; omega)
                  have hle := (HLEN.out k (by omega)).2.2.2
                  have HSU : Hid (fb4 num l (k + 1) = fb4 num l k ++ if mK l = true then [] else [if (l.getD k dS).key = true then 1 else 0]) := hide (by unfold fb4; rw [keyL_succ, ← List.append_assoc])
                  generalize (l.getD k dS).time = tm at *
                  generalize (l.getD k dS).step = st at *
                  generalize (l.getD k dS).shift = sh at *
                  generalize (l.getD k dS).size = sz at *
                  generalize (l.getD k dS).key = ky at *
                  have EAL : Hid (Ext w (wr.alloc (.cells #[.int .i64 tm, .int .i64 st, .int .i64 sh, .int .i64 sz, .bool ky] 40))) := hide (Ext.trans HX.out (Ext.alloc _ _))
                  have i0 : (k : Int) < (n : Int) := by omega
                  have i8 : IntKind.i64.wrap ((k : Int) + 1) = (k : Int) + 1 := by rw [IntKind.wrap_i64]; omega
                  clear hat
                  cases hmk : mK l with
                  | true =>
                    have qq := Q8.out
                    rw [hmk] at qq
                    simp only [if_true] at qq
                    have HV : Hid (fb4 num l n = fb4 num l k) := hide (by unfold fb4; rw [hmk, keyL_no, keyL_no])
                    have HRL : Hid (fb4 num l n = fbytes num l) := hide (by unfold fbytes; rw [HL.out])
                    have OK := hide (HK.out.ext (Ext.alloc wr (.cells #[.int .i64 tm, .int .i64 st, .int .i64 sh, .int .i64 sz, .bool ky] 40)))
                    clear hmk
                    go_wp2_with fail
                    refine bodyPost_ret (v := .tuple #[u8, .int .i64 0]) (by simp [results, Try.results24, go_sem]) rfl (gives_own HR.out.1 (by rw [← HV.out, HRL.out, HR.out.2]) OK.out EAL.out)
                  | false =>
                    have qq := Q8.out
                    rw [hmk] at qq
                    simp only [Bool.false_eq_true, if_false] at qq
                    have HV : Hid (fb4 num l (k + 1) = fb4 num l k ++ [if ky = true then 1 else 0]) := hide (by rw [HSU.out, if_neg (by rw [hmk]; simp)])
                    clear hmk
                    obtain ⟨i0_, hi0, hz0, hz1, hz2⟩ := info_parts Try.info5
                    have S1 : Hid ((fb4 num l k).length + 1 ≤ maxLen) := hide (by unfold maxLen; omega)
                    have S2 : Hid (((fb4 num l k).length + 1) * 1 ≤ 140737488355328) := hide (by omega)
                    cases ky with
                    | true =>
                      have S3 : Hid (w.heap.size ≤ ((wr.alloc (.cells #[.int .i64 tm, .int .i64 st, .int .i64 sh, .int .i64 sz, .bool true] 40)).alloc (.cells #[.int .u8 1] 5)).heap.size) := hide (by rw [World.size_alloc]; have := EAL.out.size; omega)
                      have HV2 : Hid (fb4 num l (k + 1) = fb4 num l k ++ [1]) := hide (by rw [HV.out]; rfl)
                      have hea := At.new1 (enc := e8) (wr.alloc (.cells #[.int .i64 tm, .int .i64 st, .int .i64 sh, .int .i64 sz, .bool true] 40)) (1 : UInt8) (.int .u8 1) rfl 5
                      rw [World.size_alloc] at hea
                      have HEA := hide hea
                      clear hea
                      have HKO := hide (HK.out.ext (Ext.trans (Ext.alloc wr (.cells #[.int .i64 tm, .int .i64 st, .int .i64 sh, .int .i64 sz, .bool true] 40)) (Ext.alloc _ (.cells #[.int .u8 1] 5))))
                      go_wp2_with ((at_builtin; refine wpList_append_at _ rfl (.tmp 121) (.tmp 123) 22 rfl w.heap.size 5 i0_ _ 1 Try.underlying22 hi0 hz0 hz1 hz2 rfl (by omega) len_e8 one_e8 u8 _ (by rfl) HKO.out (some ⟨wr.heap.size + 1, 0, none⟩) 1 1 [(1 : UInt8)] (by rfl) HEA.out S1.out S2.out S3.out ?_; intro v9 w9 o9 g9 _ _; have O9 := hide o9; have G9 := hide g9; clear o9 g9))
                      exact ⟨⟨k + 1, by omega, by go_num, hide (by rw [HV2.out]; exact O9.out), hide (HKO.out.below (Ext.trans EAL.out (Ext.alloc _ _)) G9.out (Nat.le_refl _))⟩, by simp [intOf]; omega⟩
                    | false =>
                      have S3 : Hid (w.heap.size ≤ ((wr.alloc (.cells #[.int .i64 tm, .int .i64 st, .int .i64 sh, .int .i64 sz, .bool false] 40)).alloc (.cells #[.int .u8 0] 5)).heap.size) := hide (by rw [World.size_alloc]; have := EAL.out.size; omega)
                      have HV2 : Hid (fb4 num l (k + 1) = fb4 num l k ++ [0]) := hide (by rw [HV.out]; rfl)
                      have hea := At.new1 (enc := e8) (wr.alloc (.cells #[.int .i64 tm, .int .i64 st, .int .i64 sh, .int .i64 sz, .bool false] 40)) (0 : UInt8) (.int .u8 0) rfl 5
                      rw [World.size_alloc] at hea
                      have HEA := hide hea
                      clear hea
                      have HKO := hide (HK.out.ext (Ext.trans (Ext.alloc wr (.cells #[.int .i64 tm, .int .i64 st, .int .i64 sh, .int .i64 sz, .bool false] 40)) (Ext.alloc _ (.cells #[.int .u8 0] 5))))
                      go_wp2_with ((at_builtin; refine wpList_append_at _ rfl (.tmp 121) (.tmp 123) 22 rfl w.heap.size 5 i0_ _ 1 Try.underlying22 hi0 hz0 hz1 hz2 rfl (by omega) len_e8 one_e8 u8 _ (by rfl) HKO.out (some ⟨wr.heap.size + 1, 0, none⟩) 1 1 [(0 : UInt8)] (by rfl) HEA.out S1.out S2.out S3.out ?_; intro v9 w9 o9 g9 _ _; have O9 := hide o9; have G9 := hide g9; clear o9 g9))
                      exact ⟨⟨k + 1, by omega, by go_num, hide (by rw [HV2.out]; exact O9.out), hide (HKO.out.below (Ext.trans EAL.out (Ext.alloc _ _)) G9.out (Nat.le_refl _))⟩, by simp [intOf]; omega⟩
                · obtain rfl : n = k := by omega
                  have i0 : ¬ (n : Int) < (n : Int) := by omega
                  have HRL : Hid (fb4 num l n = fbytes num l) := hide (by unfold fbytes; rw [HL.out])
                  go_wp2_with fail
                  refine bodyPost_ret (v := .tuple #[u8, .int .i64 0]) (by simp [results, Try.results24, go_sem]) rfl (gives_own HR.out.1 (by rw [HRL.out, HR.out.2]) HK.out HX.out)
end Go.Proofs.Ytgnmnhlhiiehfaa
