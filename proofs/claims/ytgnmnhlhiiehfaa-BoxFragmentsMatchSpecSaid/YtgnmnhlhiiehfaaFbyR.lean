/- Walk: checkFragment, FragmentBytes (reference). Conditions as stated. -/
import Derived.Test.YtgnmnhlhiiehfaaFbyA
import Derived.Test.YtgnmnhlhiiehfaaMrkR
import Derived.Test.YtgnmnhlhiiehfaaSmpR
namespace Go.Proofs.Ytgnmnhlhiiehfaa
open Go.RowKit
set_option maxRecDepth 100000 in
set_option maxHeartbeats 2000000 in
theorem refChkFrag_any {num : Int} {A : Option Addr} {n c : Nat} {l : List Smp} {w : World} (h : At w 5 eSm A n c l) :
    Calls Try.prog 47 #[.agg #[.int .i64 num, .slice A n c]] w fun e w' => e = .returned (.int .i64 (fragF num l)) ∧ Ext w w' := by
  by_cases hr : num < 0 ∨ 4294967295 < num
  · have HF : Hid (fragF num l = 1) := hide (by unfold fragF; rw [if_pos hr])
    have HO := hide (fun (W : World) => within_no (lo := 0) (hi := 4294967295) hr W)
    clear h hr
    go_enter Try.func47, Try.ntmps47
    go_wp2_with fail
    with_reducible refine (HO.out _).mono ?_
    rintro e w' ⟨rfl, rfl⟩
    go_wp2_with fail
    go_ret
    exact ⟨ret_int HF.out.symm, Ext.alloc _ _⟩
  · have hr' : 0 ≤ num ∧ num ≤ 4294967295 := by omega
    have HF : Hid (fragF num l = smpF l) := hide (by unfold fragF; rw [if_neg hr])
    have HO := hide (fun (W : World) => within_yes (lo := 0) (hi := 4294967295) hr' W)
    have HC := hide (refSamples_any (h.ext (Ext.alloc w (.cells #[.int .i64 num, .slice A n c] 35))))
    clear h hr hr'
    go_enter Try.func47, Try.ntmps47
    go_wp2_with fail
    with_reducible refine (HO.out _).mono ?_
    rintro e w' ⟨rfl, rfl⟩
    go_wp2_with fail
    with_reducible refine HC.out.mono ?_
    rintro e w' ⟨rfl, e1⟩
    go_wp2_with fail
    go_ret
    exact ⟨ret_int HF.out.symm, Ext.trans (Ext.alloc _ _) e1⟩
/-- written at a number that the walk spells. -/
theorem wrtN {w : World} {x : Int} (many : Nat) (k : Int) (hk : (many : Int) = k) (hm : many ≤ 8) :
    Calls Try.prog 49 #[.int .i64 x, .int .i64 k] w fun e w' => ∃ g, e = .returned (.slice (some ⟨g, 0, none⟩) many many) ∧ At w' 1 e8 (some ⟨g, 0, none⟩) many many (beN many (u64n x)) ∧ Ext w w' := by
  rw [← hk]
  exact (written_any hm).mono fun e w' ⟨g, h1, h2, h3⟩ => ⟨g, h1, h2.atS len_e8, h3⟩
theorem wrtO {w : World} {x : Int} (many : Nat) (k : Int) (hk : (many : Int) = k) (hm : many ≤ 8) :
    Calls Try.prog 49 #[.int .i64 x, .int .i64 k] w fun e w' => ∃ g, e = .returned (.slice (some ⟨g, 0, none⟩) many many) ∧ Own w' w.heap.size 5 1 e8 (.slice (some ⟨g, 0, none⟩) many many) (beN many (u64n x)) ∧ Ext w w' := by
  rw [← hk]
  exact written_any hm
theorem goA {k n : Nat} {b : Bool} (h : k < n) (hk : k = 0) : true = decide (k < n ∧ (k = 0 ∨ b = false)) := by rw [eq_comm, decide_eq_true_iff]; exact ⟨h, .inl hk⟩
theorem goB {k n : Nat} {b : Bool} (h : k < n) (hk : 0 < k) : (!b) = decide (k < n ∧ (k = 0 ∨ b = false)) := by
  have : k ≠ 0 := by omega
  cases b <;> simp [h, this]
theorem ext_size {a b : World} (h : Ext a b) : a.heap.size ≤ b.heap.size := h.size
set_option linter.unusedVariables false in
set_option linter.unusedSimpArgs false in
set_option maxRecDepth 100000 in
set_option maxHeartbeats 8000000 in
theorem refFbytes_any {num : Int} {A : Option Addr} {n c : Nat} {l : List Smp} {w : World} (h : At w 5 eSm A n c l) :
    Calls Try.prog 25 #[.agg #[.int .i64 num, .slice A n c]] w (Gives 1 e8 w (fbyL num l) (fragF num l)) := by
  have HB := hide (Blk.new w 35 #[.int .i64 num, .slice A n c])
  have HC := hide (refChkFrag_any (num := num) (h.ext (Ext.alloc w (.cells #[.int .i64 num, .slice A n c] 35))))
  by_cases hs0 : fragF num l = 0
  case neg =>
    have HL : Hid (fbyL num l = []) := hide (by unfold fbyL; rw [if_neg hs0])
    obtain ⟨fl, hfl⟩ : ∃ fl, fl = fragF num l := ⟨_, rfl⟩
    rw [← hfl] at HC hs0
    have HF := hide hfl.symm
    have d0 : (fl != 0) = true := by simp [hs0]
    clear h hs0 hfl
    go_enter Try.func25, Try.ntmps25
    go_wp2_with fail
    with_reducible refine HC.out.mono ?_
    rintro e w1 ⟨rfl, e1⟩
    have E1 := hide e1
    clear e1
    go_wp2_with fail
    refine bodyPost_ret (v := .tuple #[.slice none 0 0, .int .i64 fl]) (by simp [results, Try.results25, go_sem]) rfl (gives_nil' HF.out HL.out (Ext.trans (Ext.alloc _ _) E1.out))
  case pos =>
  have HR : Hid (fragF num l = 0 ∧ fbyL num l = fbytes num l) := hide ⟨hs0, by unfold fbyL; rw [if_pos hs0]⟩
  have hsm : smpF l = 0 := by
    unfold fragF at hs0
    split at hs0
    · omega
    · exact hs0
  have hn5 : n ≤ 5000 := by have := (smpF_zero hsm).1; have := h.len; omega
  rw [hs0] at HC
  have H := hide h
  have HL := hide h.len
  have HMK := hide (fun (W : World) (hW : Ext w W) => refMarks_any (h.ext hW))
  have HA1 := hide (mkN_bit1 l)
  have HA2 := hide (mkN_bit2 l)
  have HA4 := hide (mkN_bit4 l)
  have HA8 := hide (mkN_bit8 l)
  have hm16 := mkN_lt l
  have HHD : Hid (fhead num l = beN 4 (u64n num) ++ beN 8 (u64n (timeS l)) ++ beN 2 (u64n l.length) ++ [UInt8.ofNat (mkN l)]) := hide rfl
  obtain ⟨m, hm⟩ : ∃ m, m = mkN l := ⟨_, rfl⟩
  rw [← hm] at HA1 HA2 HA4 HA8 hm16 HHD
  have HM := hide hm
  clear h hs0 hm hsm
  have Q1 : Hid (((m : Int) % 2 == 0) = !mS l) := hide (by have h1 := HA1.out; rw [Bool.eq_iff_iff]; cases h : mS l <;> rw [h] at h1 <;> simp at h1 ⊢ <;> omega)
  have Q2 : Hid (((m : Int) / 2 % 2 == 0) = !mH l) := hide (by have h1 := HA2.out; rw [Bool.eq_iff_iff]; cases h : mH l <;> rw [h] at h1 <;> simp at h1 ⊢ <;> omega)
  have Q4 : Hid (((m : Int) / 4 % 2 == 0) = !mZ l) := hide (by have h1 := HA4.out; rw [Bool.eq_iff_iff]; cases h : mZ l <;> rw [h] at h1 <;> simp at h1 ⊢ <;> omega)
  have Q8 : Hid (decide ((m : Int) < 8) = !mK l) := hide (by have h1 := HA8.out; rw [Bool.eq_iff_iff]; cases h : mK l <;> rw [h] at h1 <;> simp at h1 ⊢ <;> omega)
  clear HA1 HA2 HA4 HA8
  have HLEN : Hid (∀ k, k ≤ n → (fb1 num l k).length ≤ 1000000 ∧ (fb2 num l k).length ≤ 1000000 ∧ (fb3 num l k).length ≤ 1000000 ∧ (fb4 num l k).length ≤ 1000000) := hide (fun k hk => by
    have hl := HL.out
    have h1 := fb1_le num l k
    have h2 := fb2_le num l k
    have h3 := fb3_le num l k
    have h4 := fb4_le num l k
    rw [hl] at h2 h3 h4
    exact ⟨by omega, by omega, by omega, by omega⟩)
  go_enter Try.func25, Try.ntmps25
  go_wp2_with fail
  with_reducible refine HC.out.mono ?_
  rintro e w1 ⟨rfl, e1⟩
  have E1 : Hid (Ext w w1) := hide (Ext.trans (Ext.alloc _ _) e1)
  have B1 := hide (HB.out.ext e1)
  have a1 : w1.cell? ⟨w.heap.size, 1, none⟩ = some (.slice A n c) := B1.out.cell 1
  clear e1 HC HB
  go_wp2_with fail
  have EX := Ext.drew w1
  go_region_held3 (fun w' => w'.cell? ⟨w.heap.size, 1, none⟩ = some (.slice A n c)) (first | go_keep | exact EX.cell a1) (((go_at_call 46; with_reducible refine (HMK.out _ (Ext.trans E1.out EX)).mono ?_); rintro e w2 ⟨rfl, e2⟩; have EX := Ext.trans EX e2))
  rw [← HM.out]
  have E2 := hide (Ext.trans E1.out EX)
  have B2 := hide (B1.out.ext EX)
  have b0 : w2.cell? ⟨w.heap.size, 0, none⟩ = some (.int .i64 num) := B2.out.cell 0
  have HWN := hide (fun (W : World) => wrtO (w := W) (x := num) 4 4 rfl (by omega))
  clear EX a1 B1 E1
  go_wp2_with fail
  with_reducible refine (HWN.out _).mono ?_
  rintro e w3 ⟨g3, rfl, o3, e3⟩
  have O3 : Hid (Own w3 w.heap.size 5 1 e8 (.slice (some ⟨g3, 0, none⟩) 4 4) (beN 4 (u64n num))) := hide (o3.more (ext_size E2.out))
  have E3 := hide (Ext.trans E2.out e3)
  clear o3 e3 b0 B2 E2 HWN
  obtain ⟨i0_, hi0, hz0, hz1, hz2⟩ := info_parts Try.info5
  go_upto_if 28 with (fail)
  go_cut [7] (fun s7 wx => Hid (Own wx w.heap.size 5 1 e8 s7 (beN 4 (u64n num) ++ beN 8 (u64n (timeS l)))) ∧ Hid (Ext w wx))
  case first =>
    rcases Nat.eq_zero_or_pos n with hn0 | hn0
    · have HT : Hid (timeS l = 0) := hide (by unfold timeS; rw [if_neg (by have := HL.out; omega)])
      have i0 : ¬ (0 : Int) < (n : Int) := by omega
      have i1 : decide ((0 : Int) < (n : Int)) = false := by simp; omega
      have i2 : decide (0 < n) = false := by simp; omega
      have HWN := hide (fun (W : World) => wrtN (w := W) (x := 0) 8 8 rfl (by omega))
      clear hn0
      go_wp2_with fail
      with_reducible refine (HWN.out _).mono ?_
      rintro e w4 ⟨g4, rfl, o4, e4⟩
      have O4 := hide o4
      have O3B := hide (O3.out.ext e4)
      have E4 := hide (Ext.trans E3.out e4)
      have S1 : Hid ((beN 4 (u64n num)).length + 8 ≤ maxLen) := hide (by simp [beN_len, maxLen])
      have S2 : Hid (((beN 4 (u64n num)).length + 8) * 1 ≤ 140737488355328) := hide (by simp [beN_len])
      have S3 := hide (ext_size E4.out)
      clear o4 e4
      go_wp2_with ((at_builtin; refine wpList_append_at _ rfl (.tmp 36) (.tmp 37) 22 rfl w.heap.size 5 i0_ _ 1 Try.underlying22 hi0 hz0 hz1 hz2 rfl (by omega) len_e8 one_e8 _ _ (by rfl) O3B.out (some ⟨g4, 0, none⟩) 8 8 _ (by rfl) O4.out S1.out S2.out S3.out ?_; intro v5 w5 o5 g5 _ _; have O5 := hide o5; have G5 := hide g5; clear o5 g5))
      go_meet
      exact ⟨by rw [HT.out]; exact O5, hide (O3B.out.below E4.out G5.out (Nat.le_refl _))⟩
    · have HT : Hid (timeS l = (l.getD 0 dS).time) := hide (by unfold timeS; rw [if_pos (by have := HL.out; omega)])
      obtain ⟨b, off, rfl, _⟩ := H.out.addr hn0
      have c0 := (H.out.ext E3.out).cellK (k := 0) hn0 dS 0 _ rfl
      rw [Nat.zero_mul, Nat.add_zero] at c0
      generalize (l.getD 0 dS).time = t00 at *
      have i0 : (0 : Int) < (n : Int) := by omega
      have i1 : decide ((0 : Int) < (n : Int)) = true := by simp; omega
      have i2 : decide (0 < n) = true := by simp; omega
      have HWN := hide (fun (W : World) => wrtN (w := W) (x := t00) 8 8 rfl (by omega))
      go_wp2_with fail
      with_reducible refine (HWN.out _).mono ?_
      rintro e w4 ⟨g4, rfl, o4, e4⟩
      have O4 := hide o4
      have O3B := hide (O3.out.ext e4)
      have E4 := hide (Ext.trans E3.out e4)
      have S1 : Hid ((beN 4 (u64n num)).length + 8 ≤ maxLen) := hide (by simp [beN_len, maxLen])
      have S2 : Hid (((beN 4 (u64n num)).length + 8) * 1 ≤ 140737488355328) := hide (by simp [beN_len])
      have S3 := hide (ext_size E4.out)
      clear o4 e4
      go_wp2_with ((at_builtin; refine wpList_append_at _ rfl (.tmp 29) (.tmp 34) 22 rfl w.heap.size 5 i0_ _ 1 Try.underlying22 hi0 hz0 hz1 hz2 rfl (by omega) len_e8 one_e8 _ _ (by rfl) O3B.out (some ⟨g4, 0, none⟩) 8 8 _ (by rfl) O4.out S1.out S2.out S3.out ?_; intro v5 w5 o5 g5 _ _; have O5 := hide o5; have G5 := hide g5; clear o5 g5))
      go_meet
      exact ⟨by rw [HT.out]; exact O5, hide (O3B.out.below E4.out G5.out (Nat.le_refl _))⟩
  case rest =>
  obtain ⟨O6, E6⟩ := hcut
  clear O3 E3
  have HWN := hide (fun (W : World) => wrtN (w := W) (x := (n : Int)) 2 2 rfl (by omega))
  have HLI : Hid ((l.length : Int) = (n : Int)) := hide (by have := HL.out; omega)
  go_wp2_with fail
  with_reducible refine (HWN.out _).mono ?_
  rintro e w7 ⟨g7, rfl, o7, e7⟩
  have O7 := hide o7
  have O6B := hide (O6.out.ext e7)
  have E7 := hide (Ext.trans E6.out e7)
  have S1 : Hid ((beN 4 (u64n num) ++ beN 8 (u64n (timeS l))).length + 2 ≤ maxLen) := hide (by simp [beN_len, maxLen])
  have S2 : Hid (((beN 4 (u64n num) ++ beN 8 (u64n (timeS l))).length + 2) * 1 ≤ 140737488355328) := hide (by simp [beN_len])
  have S3 := hide (ext_size E7.out)
  clear o7 e7 HWN
  go_upto_region 10 with ((at_builtin; refine wpList_append_at _ rfl (.tmp 39) (.tmp 42) 22 rfl w.heap.size 5 i0_ _ 1 Try.underlying22 hi0 hz0 hz1 hz2 rfl (by omega) len_e8 one_e8 _ _ (by rfl) O6B.out (some ⟨g7, 0, none⟩) 2 2 _ (by rfl) O7.out S1.out S2.out S3.out ?_; intro v8 w8 o8 g8 _ _; have O8 := hide o8; have G8 := hide g8; clear o8 g8))
  have E8 := hide (O6B.out.below E7.out G8.out (Nat.le_refl _))
  clear O6 E6 O7 O6B E7 G8 S1 S2 S3
  have HU : Hid (e8 (UInt8.ofNat m) = [.int .u8 (m : Int)]) := hide (by show [Value.int .u8 ((UInt8.ofNat m).toNat : Int)] = _; rw [UInt8.toNat_ofNat']; congr 2; omega)
  have S1 : Hid ((beN 4 (u64n num) ++ beN 8 (u64n (timeS l)) ++ beN 2 (u64n (n : Int))).length + 1 ≤ maxLen) := hide (by simp [beN_len, maxLen])
  have S2 : Hid (((beN 4 (u64n num) ++ beN 8 (u64n (timeS l)) ++ beN 2 (u64n (n : Int))).length + 1) * 1 ≤ 140737488355328) := hide (by simp [beN_len])
  have S3 : Hid (w.heap.size ≤ (w8.alloc (.cells #[.int .u8 (m : Int)] 5)).heap.size) := hide (by rw [World.size_alloc]; have := E8.out.size; omega)
  go_upto_region 11 with ((at_builtin; refine wpList_append_at _ rfl (.tmp 44) (.tmp 47) 22 rfl w.heap.size 5 i0_ _ 1 Try.underlying22 hi0 hz0 hz1 hz2 rfl (by omega) len_e8 one_e8 v8 _ (by rfl) (O8.out.ext (Ext.alloc _ _)) (some ⟨w8.heap.size, 0, none⟩) 1 1 [UInt8.ofNat m] (by rfl) (At.new1 w8 _ _ HU.out _) S1.out S2.out S3.out ?_; intro v9 w9 o9 g9 _ _; have O9 := hide o9; have G9 := hide g9; clear o9 g9))
  have EA := hide (O7b E8.out O8.out G9.out (Nat.le_refl _))
  have OA : Hid (Own w9 w.heap.size 5 1 e8 v9 (fb1 num l 0)) := hide (by have := O9.out; unfold fb1; rw [colL_zero, List.append_nil, HHD.out, HLI.out]; exact this)
  clear O9 G9 O8 E8 S1 S2 S3 HU
  go_wp2_with fail
  go_loopw [7, 8] (fun r7 ri wr => ∃ k : Nat, k ≤ n ∧ ri = .int .i64 k ∧ Hid (Own wr w.heap.size 5 1 e8 r7 (fb1 num l k)) ∧ Hid (Ext w wr)) (fun _ ri _ => n - (intOf ri).toNat)
  case atStart => exact ⟨0, by omega, rfl, OA, EA⟩
  case round =>
    obtain ⟨k, hk, rfl, HK, HX⟩ := hrel
    go_upto_region 12 with (fail)
    go_cut [61] (fun sc wx => ∃ go : Bool, sc = .bool go ∧ wx = wr ∧ Hid (go = decide (k < n ∧ (k = 0 ∨ mS l = false))))
    case first =>
      by_cases hlt : k < n
      · have i0 : (k : Int) < (n : Int) := by omega
        have i1 : decide ((k : Int) < (n : Int)) = true := by simp; omega
        have i2 : decide (k < n) = true := by simp; omega
        rcases Nat.eq_zero_or_pos k with hk0 | hk0
        · have d0 : ((k : Int) == 0) = true := by rw [beq_iff_eq]; omega
          have HG : Hid (true = decide (k < n ∧ (k = 0 ∨ mS l = false))) := hide (goA hlt hk0)
          clear hk0
          go_wp2_with fail
          go_meet
          exact ⟨true, rfl, rfl, HG⟩
        · have d0 : ((k : Int) == 0) = false := by rw [beq_eq_false_iff_ne]; omega
          have HG : Hid ((!mS l) = decide (k < n ∧ (k = 0 ∨ mS l = false))) := hide (goB hlt hk0)
          have qq := Q1.out
          generalize (!mS l) = nb at *
          clear hk0
          go_wp2_with fail
          go_meet
          exact ⟨nb, by first | rfl | rw [qq], rfl, HG⟩
      · have i0 : ¬ (k : Int) < (n : Int) := by omega
        have i1 : decide ((k : Int) < (n : Int)) = false := by simp; omega
        have i2 : decide (k < n) = false := by simp; omega
        have HG : Hid (false = decide (k < n ∧ (k = 0 ∨ mS l = false))) := hide (by simp [hlt])
        go_wp2_with fail
        go_meet
        exact ⟨false, rfl, rfl, HG⟩
    case rest =>
    obtain ⟨go, rfl, rfl, HG⟩ := hcut
    cases go with
    | true =>
      have hg : k < n ∧ (k = 0 ∨ mS l = false) := by have := HG.out; exact of_decide_eq_true this.symm
      have hlt := hg.1
      obtain ⟨b, off, rfl, _⟩ := H.out.addr (by omega)
      have a0 := (H.out.ext HX.out).cellK hlt dS 1 _ rfl
      have hle := (HLEN.out k (by omega)).1
      have HV : Hid (fb1 num l (k + 1) = fb1 num l k ++ beN 4 (u64n (l.getD k dS).step)) := hide (by unfold fb1; rw [colL_succ, if_pos hg.2, ← List.append_assoc])
      generalize (l.getD k dS).step = xv at *
      have i0 : (k : Int) < (n : Int) := by omega
      have i9 : (0 : Int) ≤ (k : Int) := by omega
      have i8 : IntKind.i64.wrap ((k : Int) + 1) = (k : Int) + 1 := by rw [IntKind.wrap_i64]; omega
      clear hg HG
      have HWN := hide (fun (W : World) => wrtN (w := W) (x := xv) 4 4 rfl (by omega))
      go_wp2_with fail
      with_reducible refine (HWN.out _).mono ?_
      rintro e w4 ⟨g4, rfl, o4, e4⟩
      have O4 := hide o4
      have O3B := hide (HK.out.ext e4)
      have E4 := hide (Ext.trans HX.out e4)
      have S1 : Hid ((fb1 num l k).length + 4 ≤ maxLen) := hide (by unfold maxLen; omega)
      have S2 : Hid (((fb1 num l k).length + 4) * 1 ≤ 140737488355328) := hide (by omega)
      have S3 := hide (ext_size E4.out)
      clear o4 e4
      go_wp2_with ((at_builtin; refine wpList_append_at _ rfl (.tmp 64) (.tmp 70) 22 rfl w.heap.size 5 i0_ _ 1 Try.underlying22 hi0 hz0 hz1 hz2 rfl (by omega) len_e8 one_e8 _ _ (by rfl) O3B.out (some ⟨g4, 0, none⟩) 4 4 _ (by rfl) O4.out S1.out S2.out S3.out ?_; intro v5 w5 o5 g5 _ _; have O5 := hide o5; have G5 := hide g5; clear o5 g5))
      exact ⟨⟨k + 1, by omega, by go_num, hide (by rw [HV.out]; exact O5.out), hide (O3B.out.below E4.out G5.out (Nat.le_refl _))⟩, by simp [intOf]; omega⟩
    | false =>
      have hg : ¬ (k < n ∧ (k = 0 ∨ mS l = false)) := by have := HG.out; exact of_decide_eq_false this.symm
      have HEND : Hid (fb1 num l k = fb1 num l n) := hide (by
          unfold fb1; congr 1; by_cases h1 : k < n
          · have h2 : k ≠ 0 ∧ mS l = true := by cases hh : mS l <;> simp [hh, h1] at hg ⊢ <;> omega
            obtain ⟨j, rfl⟩ : ∃ j, k = j + 1 := ⟨k - 1, by omega⟩
            obtain ⟨i, hi⟩ : ∃ i, n = i + 1 := ⟨n - 1, by omega⟩
            rw [hi, h2.2, colL_one _ _ j, colL_one _ _ i]
          · rw [show k = n by omega])
      have HNX : Hid (fb2 num l 0 = fb1 num l k) := hide (by rw [HEND.out]; unfold fb2 colH; have := HL.out; rw [this]; split <;> simp [colL_zero])
      have ON := hide HK.out
      rw [← HNX.out] at ON
      have EN := hide HX.out
      clear HK HX HNX hk hg HG HEND
      go_wp2_with fail
      go_loopw [7, 9] (fun r7 ri wr => ∃ k : Nat, k ≤ n ∧ ri = .int .i64 k ∧ Hid (Own wr w.heap.size 5 1 e8 r7 (fb2 num l k)) ∧ Hid (Ext w wr)) (fun _ ri _ => n - (intOf ri).toNat)
      case atStart => exact ⟨0, by omega, rfl, ON, EN⟩
      case round =>
        obtain ⟨k, hk, rfl, HK, HX⟩ := hrel
        go_upto_region 16 with (fail)
        go_cut [81] (fun sc wx => ∃ go : Bool, sc = .bool go ∧ wx = wr ∧ Hid (go = decide (k < n ∧ mH l = false)))
        case first =>
          by_cases hlt : k < n
          · have i0 : (k : Int) < (n : Int) := by omega
            have i1 : decide ((k : Int) < (n : Int)) = true := by simp; omega
            have i2 : decide (k < n) = true := by simp; omega
            have HG : Hid ((!mH l) = decide (k < n ∧ mH l = false)) := hide (by cases mH l <;> simp [hlt])
            have qq := Q2.out
            generalize (!mH l) = nb at *
            go_wp2_with fail
            go_meet
            exact ⟨nb, by first | rfl | rw [qq] | simp [qq], rfl, HG⟩
          · have i0 : ¬ (k : Int) < (n : Int) := by omega
            have i1 : decide ((k : Int) < (n : Int)) = false := by simp; omega
            have i2 : decide (k < n) = false := by simp; omega
            have HG : Hid (false = decide (k < n ∧ mH l = false)) := hide (by simp [hlt])
            go_wp2_with fail
            go_meet
            exact ⟨false, rfl, rfl, HG⟩
        case rest =>
        obtain ⟨go, rfl, rfl, HG⟩ := hcut
        cases go with
        | true =>
          have hg : k < n ∧ mH l = false := by have := HG.out; exact of_decide_eq_true this.symm
          have hlt := hg.1
          obtain ⟨b, off, rfl, _⟩ := H.out.addr (by omega)
          have a0 := (H.out.ext HX.out).cellK hlt dS 2 _ rfl
          have hle := (HLEN.out k (by omega)).2.1
          have HV : Hid (fb2 num l (k + 1) = fb2 num l k ++ beN 4 (u64n (l.getD k dS).shift)) := hide (by unfold fb2 colH; rw [hg.2]; simp [colL_succ])
          generalize (l.getD k dS).shift = xv at *
          have i0 : (k : Int) < (n : Int) := by omega
          have i9 : (0 : Int) ≤ (k : Int) := by omega
          have i8 : IntKind.i64.wrap ((k : Int) + 1) = (k : Int) + 1 := by rw [IntKind.wrap_i64]; omega
          clear hg HG
          have HWN := hide (fun (W : World) => wrtN (w := W) (x := xv) 4 4 rfl (by omega))
          go_wp2_with fail
          with_reducible refine (HWN.out _).mono ?_
          rintro e w4 ⟨g4, rfl, o4, e4⟩
          have O4 := hide o4
          have O3B := hide (HK.out.ext e4)
          have E4 := hide (Ext.trans HX.out e4)
          have S1 : Hid ((fb2 num l k).length + 4 ≤ maxLen) := hide (by unfold maxLen; omega)
          have S2 : Hid (((fb2 num l k).length + 4) * 1 ≤ 140737488355328) := hide (by omega)
          have S3 := hide (ext_size E4.out)
          clear o4 e4
          go_wp2_with ((at_builtin; refine wpList_append_at _ rfl (.tmp 84) (.tmp 90) 22 rfl w.heap.size 5 i0_ _ 1 Try.underlying22 hi0 hz0 hz1 hz2 rfl (by omega) len_e8 one_e8 _ _ (by rfl) O3B.out (some ⟨g4, 0, none⟩) 4 4 _ (by rfl) O4.out S1.out S2.out S3.out ?_; intro v5 w5 o5 g5 _ _; have O5 := hide o5; have G5 := hide g5; clear o5 g5))
          exact ⟨⟨k + 1, by omega, by go_num, hide (by rw [HV.out]; exact O5.out), hide (O3B.out.below E4.out G5.out (Nat.le_refl _))⟩, by simp [intOf]; omega⟩
        | false =>
          have hg : ¬ (k < n ∧ mH l = false) := by have := HG.out; exact of_decide_eq_false this.symm
          have HEND : Hid (fb2 num l k = fb2 num l n) := hide (by
              unfold fb2 colH; by_cases h1 : k < n
              · have h2 : mH l = true := by cases hh : mH l <;> simp [hh, h1] at hg ⊢
                rw [h2]; rfl
              · rw [show k = n by omega])
          have HNX : Hid (fb3 num l 0 = fb2 num l k) := hide (by rw [HEND.out]; unfold fb3; have := HL.out; rw [this, colL_zero]; simp)
          have ON := hide HK.out
          rw [← HNX.out] at ON
          have EN := hide HX.out
          clear HK HX HNX hk hg HG HEND
          go_wp2_with fail
          go_loopw [7, 10] (fun r7 ri wr => ∃ k : Nat, k ≤ n ∧ ri = .int .i64 k ∧ Hid (Own wr w.heap.size 5 1 e8 r7 (fb3 num l k)) ∧ Hid (Ext w wr)) (fun _ ri _ => n - (intOf ri).toNat)
          case atStart => exact ⟨0, by omega, rfl, ON, EN⟩
          case round =>
            obtain ⟨k, hk, rfl, HK, HX⟩ := hrel
            go_upto_region 20 with (fail)
            go_cut [105] (fun sc wx => ∃ go : Bool, sc = .bool go ∧ wx = wr ∧ Hid (go = decide (k < n ∧ (k = 0 ∨ mZ l = false))))
            case first =>
              by_cases hlt : k < n
              · have i0 : (k : Int) < (n : Int) := by omega
                have i1 : decide ((k : Int) < (n : Int)) = true := by simp; omega
                have i2 : decide (k < n) = true := by simp; omega
                rcases Nat.eq_zero_or_pos k with hk0 | hk0
                · have d0 : ((k : Int) == 0) = true := by rw [beq_iff_eq]; omega
                  have HG : Hid (true = decide (k < n ∧ (k = 0 ∨ mZ l = false))) := hide (goA hlt hk0)
                  clear hk0
                  go_wp2_with fail
                  go_meet
                  exact ⟨true, rfl, rfl, HG⟩
                · have d0 : ((k : Int) == 0) = false := by rw [beq_eq_false_iff_ne]; omega
                  have HG : Hid ((!mZ l) = decide (k < n ∧ (k = 0 ∨ mZ l = false))) := hide (goB hlt hk0)
                  have qq := Q4.out
                  generalize (!mZ l) = nb at *
                  clear hk0
                  go_wp2_with fail
                  go_meet
                  exact ⟨nb, by first | rfl | rw [qq], rfl, HG⟩
              · have i0 : ¬ (k : Int) < (n : Int) := by omega
                have i1 : decide ((k : Int) < (n : Int)) = false := by simp; omega
                have i2 : decide (k < n) = false := by simp; omega
                have HG : Hid (false = decide (k < n ∧ (k = 0 ∨ mZ l = false))) := hide (by simp [hlt])
                go_wp2_with fail
                go_meet
                exact ⟨false, rfl, rfl, HG⟩
            case rest =>
            obtain ⟨go, rfl, rfl, HG⟩ := hcut
            cases go with
            | true =>
              have hg : k < n ∧ (k = 0 ∨ mZ l = false) := by have := HG.out; exact of_decide_eq_true this.symm
              have hlt := hg.1
              obtain ⟨b, off, rfl, _⟩ := H.out.addr (by omega)
              have a0 := (H.out.ext HX.out).cellK hlt dS 3 _ rfl
              have hle := (HLEN.out k (by omega)).2.2.1
              have HV : Hid (fb3 num l (k + 1) = fb3 num l k ++ beN 4 (u64n (l.getD k dS).size)) := hide (by unfold fb3; rw [colL_succ, if_pos hg.2, ← List.append_assoc])
              generalize (l.getD k dS).size = xv at *
              have i0 : (k : Int) < (n : Int) := by omega
              have i9 : (0 : Int) ≤ (k : Int) := by omega
              have i8 : IntKind.i64.wrap ((k : Int) + 1) = (k : Int) + 1 := by rw [IntKind.wrap_i64]; omega
              clear hg HG
              have HWN := hide (fun (W : World) => wrtN (w := W) (x := xv) 4 4 rfl (by omega))
              go_wp2_with fail
              with_reducible refine (HWN.out _).mono ?_
              rintro e w4 ⟨g4, rfl, o4, e4⟩
              have O4 := hide o4
              have O3B := hide (HK.out.ext e4)
              have E4 := hide (Ext.trans HX.out e4)
              have S1 : Hid ((fb3 num l k).length + 4 ≤ maxLen) := hide (by unfold maxLen; omega)
              have S2 : Hid (((fb3 num l k).length + 4) * 1 ≤ 140737488355328) := hide (by omega)
              have S3 := hide (ext_size E4.out)
              clear o4 e4
              go_wp2_with ((at_builtin; refine wpList_append_at _ rfl (.tmp 108) (.tmp 114) 22 rfl w.heap.size 5 i0_ _ 1 Try.underlying22 hi0 hz0 hz1 hz2 rfl (by omega) len_e8 one_e8 _ _ (by rfl) O3B.out (some ⟨g4, 0, none⟩) 4 4 _ (by rfl) O4.out S1.out S2.out S3.out ?_; intro v5 w5 o5 g5 _ _; have O5 := hide o5; have G5 := hide g5; clear o5 g5))
              exact ⟨⟨k + 1, by omega, by go_num, hide (by rw [HV.out]; exact O5.out), hide (O3B.out.below E4.out G5.out (Nat.le_refl _))⟩, by simp [intOf]; omega⟩
            | false =>
              have hg : ¬ (k < n ∧ (k = 0 ∨ mZ l = false)) := by have := HG.out; exact of_decide_eq_false this.symm
              have HEND : Hid (fb3 num l k = fb3 num l n) := hide (by
                  unfold fb3; congr 1; by_cases h1 : k < n
                  · have h2 : k ≠ 0 ∧ mZ l = true := by cases hh : mZ l <;> simp [hh, h1] at hg ⊢ <;> omega
                    obtain ⟨j, rfl⟩ : ∃ j, k = j + 1 := ⟨k - 1, by omega⟩
                    obtain ⟨i, hi⟩ : ∃ i, n = i + 1 := ⟨n - 1, by omega⟩
                    rw [hi, h2.2, colL_one _ _ j, colL_one _ _ i]
                  · rw [show k = n by omega])
              have HNX : Hid (fb4 num l 0 = fb3 num l k) := hide (by rw [HEND.out]; unfold fb4; have := HL.out; rw [this, keyL_zero]; simp)
              have ON := hide HK.out
              rw [← HNX.out] at ON
              have EN := hide HX.out
              clear HK HX HNX hk hg HG HEND
              go_wp2_with fail
              go_loopw [7, 11] (fun r7 ri wr => ∃ k : Nat, k ≤ n ∧ ri = .int .i64 k ∧ Hid (Own wr w.heap.size 5 1 e8 r7 (fb4 num l k)) ∧ Hid (Ext w wr)) (fun _ ri _ => n - (intOf ri).toNat)
              case atStart => exact ⟨0, by omega, rfl, ON, EN⟩
              case round =>
                obtain ⟨k, hk, rfl, HK, HX⟩ := hrel
                go_upto_region 24 with (fail)
                go_cut [123] (fun sc wx => ∃ go : Bool, sc = .bool go ∧ wx = wr ∧ Hid (go = decide (k < n ∧ mK l = false)))
                case first =>
                  by_cases hlt : k < n
                  · have i0 : (k : Int) < (n : Int) := by omega
                    have i1 : decide ((k : Int) < (n : Int)) = true := by simp; omega
                    have i2 : decide (k < n) = true := by simp; omega
                    have HG : Hid ((!mK l) = decide (k < n ∧ mK l = false)) := hide (by cases mK l <;> simp [hlt])
                    have qq := Q8.out
                    generalize (!mK l) = nb at *
                    go_wp2_with fail
                    go_meet
                    exact ⟨nb, by first | rfl | rw [qq] | simp [qq], rfl, HG⟩
                  · have i0 : ¬ (k : Int) < (n : Int) := by omega
                    have i1 : decide ((k : Int) < (n : Int)) = false := by simp; omega
                    have i2 : decide (k < n) = false := by simp; omega
                    have HG : Hid (false = decide (k < n ∧ mK l = false)) := hide (by simp [hlt])
                    go_wp2_with fail
                    go_meet
                    exact ⟨false, rfl, rfl, HG⟩
                case rest =>
                obtain ⟨go, rfl, rfl, HG⟩ := hcut
                cases go with
                | true =>
                  have hg : k < n ∧ mK l = false := by have := HG.out; exact of_decide_eq_true this.symm
                  have hlt := hg.1
                  obtain ⟨b, off, rfl, _⟩ := H.out.addr (by omega)
                  have a0 := (H.out.ext HX.out).cellK hlt dS 4 _ rfl
                  have hle := (HLEN.out k (by omega)).2.2.2
                  have HV : Hid (fb4 num l (k + 1) = fb4 num l k ++ [if (l.getD k dS).key = true then 1 else 0]) := hide (by unfold fb4; rw [keyL_succ, hg.2, ← List.append_assoc]; rfl)
                  generalize (l.getD k dS).key = xv at *
                  have i0 : (k : Int) < (n : Int) := by omega
                  have i9 : (0 : Int) ≤ (k : Int) := by omega
                  have i8 : IntKind.i64.wrap ((k : Int) + 1) = (k : Int) + 1 := by rw [IntKind.wrap_i64]; omega
                  clear hg HG
                  have S1 : Hid ((fb4 num l k).length + 1 ≤ maxLen) := hide (by unfold maxLen; omega)
                  have S2 : Hid (((fb4 num l k).length + 1) * 1 ≤ 140737488355328) := hide (by omega)
                  cases xv with
                  | true =>
                    have S3 : Hid (w.heap.size ≤ (wc.alloc (.cells #[.int .u8 1] 5)).heap.size) := hide (by rw [World.size_alloc]; have := HX.out.size; omega)
                    have HV2 : Hid (fb4 num l (k + 1) = fb4 num l k ++ [1]) := hide (by rw [HV.out]; rfl)
                    have HEA := hide (At.new1 (enc := e8) wc (1 : UInt8) (.int .u8 1) rfl 5)
                    have HKO := hide (HK.out.ext (Ext.alloc wc (.cells #[.int .u8 1] 5)))
                    go_wp2_with ((at_builtin; refine wpList_append_at _ rfl (.tmp 131) (.tmp 133) 22 rfl w.heap.size 5 i0_ _ 1 Try.underlying22 hi0 hz0 hz1 hz2 rfl (by omega) len_e8 one_e8 _ _ (by rfl) HKO.out (some ⟨wc.heap.size, 0, none⟩) 1 1 [(1 : UInt8)] (by rfl) HEA.out S1.out S2.out S3.out ?_; intro v9 w9 o9 g9 _ _; have O9 := hide o9; have G9 := hide g9; clear o9 g9))
                    exact ⟨⟨k + 1, by omega, by go_num, hide (by rw [HV2.out]; exact O9.out), hide (HKO.out.below (Ext.trans HX.out (Ext.alloc _ _)) G9.out (Nat.le_refl _))⟩, by simp [intOf]; omega⟩
                  | false =>
                    have S3 : Hid (w.heap.size ≤ (wc.alloc (.cells #[.int .u8 0] 5)).heap.size) := hide (by rw [World.size_alloc]; have := HX.out.size; omega)
                    have HV2 : Hid (fb4 num l (k + 1) = fb4 num l k ++ [0]) := hide (by rw [HV.out]; rfl)
                    have HEA := hide (At.new1 (enc := e8) wc (0 : UInt8) (.int .u8 0) rfl 5)
                    have HKO := hide (HK.out.ext (Ext.alloc wc (.cells #[.int .u8 0] 5)))
                    go_wp2_with ((at_builtin; refine wpList_append_at _ rfl (.tmp 131) (.tmp 133) 22 rfl w.heap.size 5 i0_ _ 1 Try.underlying22 hi0 hz0 hz1 hz2 rfl (by omega) len_e8 one_e8 _ _ (by rfl) HKO.out (some ⟨wc.heap.size, 0, none⟩) 1 1 [(0 : UInt8)] (by rfl) HEA.out S1.out S2.out S3.out ?_; intro v9 w9 o9 g9 _ _; have O9 := hide o9; have G9 := hide g9; clear o9 g9))
                    exact ⟨⟨k + 1, by omega, by go_num, hide (by rw [HV2.out]; exact O9.out), hide (HKO.out.below (Ext.trans HX.out (Ext.alloc _ _)) G9.out (Nat.le_refl _))⟩, by simp [intOf]; omega⟩
                | false =>
                  have hg : ¬ (k < n ∧ mK l = false) := by have := HG.out; exact of_decide_eq_false this.symm
                  have HEND : Hid (fb4 num l k = fb4 num l n) := hide (by
                      unfold fb4; by_cases h1 : k < n
                      · have h2 : mK l = true := by cases hh : mK l <;> simp [hh, h1] at hg ⊢
                        rw [h2, keyL_no, keyL_no]
                      · rw [show k = n by omega])
                  have HRL : Hid (fb4 num l n = fbytes num l) := hide (by unfold fbytes; rw [HL.out])
                  go_wp2_with fail
                  refine bodyPost_ret (v := .tuple #[u7, .int .i64 0]) (by simp [results, Try.results25, go_sem]) rfl (gives_own HR.out.1 (by rw [HEND.out, HRL.out, HR.out.2]) HK.out HX.out)
end Go.Proofs.Ytgnmnhlhiiehfaa
