/- Walk of the reference's decrypted. Conditions: lengths as stated. -/
import Derived.Test.YtifmgngmkajahaaKeyH
namespace Go.Proofs.Ytifmgngmkajahaa
open Go.RowKit Kc

theorem sumN_nat : ∀ j : Nat, (sumN delta j).toNat = j * 2654435769 % 4294967296
  | 0 => rfl
  | j + 1 => by
    rw [sumN, UInt32.toNat_add, sumN_nat j, delta_nat]
    omega
theorem sumN_pred (j : Nat) : sumN delta (j + 1) - delta = sumN delta j := by
  rw [sumN]
  apply UInt32.toNat_inj.1
  rw [UInt32.toNat_sub, UInt32.toNat_add, delta_nat]
  have := u32lt (sumN delta j)
  omega
theorem u32_subw (a b : UInt32) : ((a.toNat : Int) + 4294967296 - (b.toNat : Int)) % (4294967296 : Int) = ((a - b).toNat : Int) := by
  have := u32lt a; have := u32lt b
  rw [UInt32.toNat_sub]; omega

set_option maxHeartbeats 1000000 in
theorem decrypted_any {A1 A2 : Option Addr} {n1 c1 n2 c2 : Nat} {l m : List UInt8} {w : World} (h1 : At w 1 e8 A1 n1 c1 l) (h2 : At w 1 e8 A2 n2 c2 m) (hn1 : 16 ≤ n1) (hn2 : n2 = 8) :
    Calls Try.prog 86 #[.slice A1 n1 c1, .slice A2 n2 c2] w fun e w' => ∃ A c, e = .returned (.slice (some A) 8 c) ∧ Own w' w.heap.size 5 1 e8 (.slice (some A) 8 c) (decB l m) ∧ Ext w w' := by
  subst hn2
  have hbd1 := h1.boundc
  have hbd := h2.boundc
  have hle := h2.le
  have hle1 := h1.le
  have hl2 := h2.len
  obtain ⟨b, off, rfl, _⟩ := h2.addr (by omega)
  obtain ⟨b1, off1, rfl, _⟩ := h1.addr (by omega)
  have n0 : ∀ W : World, Ext w W → Calls Try.prog 130 #[.slice (some ⟨b, off, none⟩) 4 c2] W fun e w' => e = .returned (.int .u64 ((wordL m).toNat : Int)) ∧ W = w' := fun W hW => by
    have := number_any ((h2.ext hW).upto (k := 4) (by omega))
    rw [numU_take _ (by omega)] at this
    exact this
  have n4 : ∀ W : World, Ext w W → Calls Try.prog 130 #[.slice (some ⟨b, off + 4, none⟩) 4 (c2 - 4)] W fun e w' => e = .returned (.int .u64 ((wordL (m.drop 4)).toNat : Int)) ∧ W = w' := fun W hW => by
    have := number_key (h2.ext hW) 1 (by omega)
    simpa [keyAt] using this
  have N0 := hide n0; have N4 := hide n4
  clear n0 n4
  have i4 : (4:Int) ≤ (c2:Int) := by omega
  have j4 : ¬ c2 = 4 := by omega
  have H1 := hide h1; have H2 := hide h2
  clear h1 h2
  go_enter Try.func86, Try.ntmps86
  go_wp2_with fail
  go_quiet (first
    | ((go_at_call 130; with_reducible exact quiet_left (N0.out _ (by repeat' (first | (with_reducible exact Below.refl _ _) | (with_reducible assumption) | (with_reducible refine below_drewN ?_ _) | (with_reducible refine Below.drew ?_) | (with_reducible refine ext_alloc ?_ _) | (with_reducible refine Below.setCell ?_ ?_ _) | go_size)))))
    | ((go_at_call 130; with_reducible exact quiet_left (N4.out _ (by repeat' (first | (with_reducible exact Below.refl _ _) | (with_reducible assumption) | (with_reducible refine below_drewN ?_ _) | (with_reducible refine Below.drew ?_) | (with_reducible refine ext_alloc ?_ _) | (with_reducible refine Below.setCell ?_ ?_ _) | go_size))))))
  go_wp2_with fail
  have X0 : Ext w (w.drewN nq) := (by repeat' (first | (with_reducible exact Below.refl _ _) | (with_reducible assumption) | (with_reducible refine below_drewN ?_ _) | (with_reducible refine Below.drew ?_) | (with_reducible refine ext_alloc ?_ _) | (with_reducible refine Below.setCell ?_ ?_ _) | go_size))
  obtain ⟨W, hW⟩ : ∃ W, W = w.drewN nq := ⟨_, rfl⟩
  rw [← hW] at X0 ⊢
  have HX := hide X0
  have nk : ∀ i : Nat, i < 4 → Calls Try.prog 130 #[.slice (some ⟨b1, off1 + 4 * i, none⟩) 4 (c1 - 4 * i)] W fun e w' => e = .returned (.int .u64 ((keyAt l i).toNat : Int)) ∧ W = w' :=
    fun i hi => number_key (H1.out.ext X0) i (by omega)
  have NK := hide nk
  clear N0 N4 H2 hW X0 nk
  go_loop [5, 6, 7] (fun ra rb rn => ∃ (j : Nat) (a b : UInt32), j ≤ 16 ∧ ra = .int .u64 (a.toNat : Int) ∧ rb = .int .u64 (b.toNat : Int) ∧ rn = .int .u64 (j : Int) ∧
      Hid (decN delta l j a b (sumN delta j) = decN delta l 16 (wordL m) (wordL (m.drop 4)) (sumN delta 16))) (fun _ _ n => (intOf n).toNat)
  case atStart => exact ⟨16, wordL m, wordL (m.drop 4), by omega, rfl, rfl, rfl, hide rfl⟩
  case round =>
    obtain ⟨j, a, bb, hj, rfl, rfl, rfl, HR⟩ := hrel
    by_cases hlt : 0 < j
    · obtain ⟨j', rfl⟩ : ∃ j', j = j' + 1 := ⟨j - 1, by omega⟩
      have la := u32lt a; have lb := u32lt bb
      obtain ⟨s, hs⟩ : ∃ s, s = sumN delta (j' + 1) := ⟨_, rfl⟩
      have s1 : (((j' : Int) + 1) * 2654435769) % 4294967296 = (s.toNat : Int) := by rw [hs, sumN_nat]; omega
      have ls := u32lt s
      obtain ⟨i, hi⟩ : ∃ i, i = s.toNat / 2048 % 4 := ⟨_, rfl⟩
      have i4 : i < 4 := by omega
      have b1' : (s.toNat : Int) / 2048 % 4 = (i : Int) := by omega
      obtain ⟨q, hq⟩ : ∃ q, q = mixU a ^^^ (s + keyAt l i) := ⟨_, rfl⟩
      have lq := u32lt q
      have mc : ∀ W : World, Calls Try.prog 131 #[.int .u64 (a.toNat : Int), .int .u64 (s.toNat : Int), .int .u64 ((keyAt l i).toNat : Int)] W fun e w' => e = .returned (.int .u64 (q.toNat : Int)) ∧ W = w' := fun W => by rw [hq]; exact mixed_any _ _ _ W
      obtain ⟨b', hb'⟩ : ∃ b', b' = bb - q := ⟨_, rfl⟩
      have lb' := u32lt b'
      have a1' : ((bb.toNat : Int) + 4294967296 - (q.toNat : Int)) % 4294967296 = (b'.toNat : Int) := by rw [hb']; exact u32_subw _ _
      obtain ⟨s', hs'⟩ : ∃ s', s' = sumN delta j' := ⟨_, rfl⟩
      have s1' : ((j' : Int) * 2654435769) % 4294967296 = (s'.toNat : Int) := by rw [hs', sumN_nat]; omega
      have ls' := u32lt s'
      obtain ⟨i', hi'⟩ : ∃ i', i' = s'.toNat % 4 := ⟨_, rfl⟩
      have i4' : i' < 4 := by omega
      have b2' : (s'.toNat : Int) % 4 = (i' : Int) := by omega
      obtain ⟨q', hq'⟩ : ∃ q, q = mixU b' ^^^ (s' + keyAt l i') := ⟨_, rfl⟩
      have lq' := u32lt q'
      have mc' : ∀ W : World, Calls Try.prog 131 #[.int .u64 (b'.toNat : Int), .int .u64 (s'.toNat : Int), .int .u64 ((keyAt l i').toNat : Int)] W fun e w' => e = .returned (.int .u64 (q'.toNat : Int)) ∧ W = w' := fun W => by rw [hq']; exact mixed_any _ _ _ W
      obtain ⟨a', ha'⟩ : ∃ a', a' = a - q' := ⟨_, rfl⟩
      have a1 : ((a.toNat : Int) + 4294967296 - (q'.toNat : Int)) % 4294967296 = (a'.toNat : Int) := by rw [ha']; exact u32_subw _ _
      have hN : decN delta l (j' + 1) a bb (sumN delta (j' + 1)) = decN delta l j' a' b' (sumN delta j') := by
        have hsd := sumN_pred j'
        rw [decN_succ, hsd, ha', hq', hi', hb', hq, hi, ← hs, ← hs']
        simp only [addA, addB, shr11_mod]; simp only [and3_mod]
      have HN := hide hN
      have MC := hide mc; have MC' := hide mc'
      clear hi hq ha' hs' hi' hq' hb' hN mc mc' hs
      go_wp2_with (first
        | ((go_at_call 130; with_reducible refine (NK.out i i4).mono ?_); rintro e w' ⟨rfl, rfl⟩)
        | ((go_at_call 131; with_reducible refine (MC.out _).mono ?_); rintro e w' ⟨rfl, rfl⟩)
        | ((go_at_call 130; with_reducible refine (NK.out i' i4').mono ?_); rintro e w' ⟨rfl, rfl⟩)
        | ((go_at_call 131; with_reducible refine (MC'.out _).mono ?_); rintro e w' ⟨rfl, rfl⟩))
      go_round
      case rel => exact ⟨j', a', b', by omega, by first | with_reducible rfl | exact int_val a1, by first | with_reducible rfl | exact int_val a1', by go_num, HN.out.symm.trans HR.out⟩
      case measure => simp [intOf]
    · have hj0 : j = 0 := by omega
      subst hj0
      have hr : decB l m = bytes4 a ++ bytes4 bb := by
        have h := HR.out
        rw [decN] at h
        unfold decB
        rw [← h]; rfl
      have HRR := hide hr
      have la := u32lt a; have lb := u32lt bb
      obtain ⟨i0, hi0, hz0, hz1, hz2⟩ := info_parts Try.info5
      clear hr HR
      go_wp2_with fail
      refine (bytesOf_4 a.toNat W (by omega)).mono ?_
      rintro e w1 ⟨g1, rfl, o1, e1⟩
      have O1 := hide o1; have E1 := hide e1
      clear o1 e1
      go_wp2_with fail
      refine (bytesOf_4 bb.toNat w1 (by omega)).mono ?_
      rintro e w2 ⟨g2, rfl, o2, e2⟩
      have O2 := hide o2; have E2 := hide e2
      clear o2 e2
      have at2 := hide (O2.out.atS len_e8)
      have O3 := hide ((O1.out.ext E2.out).more HX.out.size)
      have X2 : Ext w w2 := Ext.trans HX.out (Ext.trans E1.out E2.out)
      have HX2 := hide X2
      have z2 := X2.size
      clear O1 O2 E1 E2 X2
      go_wp2_with (at_builtin; refine wpList_append_at _ rfl (.tmp 65) (.tmp 67) 22 rfl w.heap.size 5 i0 _ 1 Try.underlying22 hi0 hz0 hz1 hz2 rfl (by omega) len_e8 one_e8 (.slice (some ⟨g1, 0, none⟩) 4 4) (beL 4 a.toNat) rfl O3.out (some ⟨g2, 0, none⟩) 4 4 (beL 4 bb.toNat) rfl at2.out ?b1 ?b2 z2 ?_)
      case b1 => rw [length_beL]; unfold maxLen; omega
      case b2 => rw [length_beL]; omega
      intro v3 w3 o3 g3 n3 _
      go_wp2
      go_ret
      obtain ⟨A3, c3, hv3, at3⟩ := o3.at_ len_e8
      have hl : (beL 4 a.toNat ++ beL 4 bb.toNat).length = 8 := by rw [List.length_append, length_beL, length_beL]
      rw [hl] at hv3
      rw [beL4, beL4, ← HRR.out] at o3
      cases A3 with
      | none => have := at3.none_ rfl; have := at3.le; omega
      | some A3 => exact ⟨A3, c3, ret_val hv3, by rw [← hv3]; exact o3, O3.out.below HX2.out g3 (Nat.le_refl _)⟩
end Go.Proofs.Ytifmgngmkajahaa
