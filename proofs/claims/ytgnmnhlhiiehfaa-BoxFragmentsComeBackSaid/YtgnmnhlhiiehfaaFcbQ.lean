/- A fragment written as it was read, in plain words. Plain. -/
import Derived.Test.YtgnmnhlhiiehfaaFcbP
namespace Go.Proofs.Ytgnmnhlhiiehfaa
theorem rd_take {b : List UInt8} {s : Rd} {k : Nat} (h : (rdN b k s).2.bad = false) : b.take (rdN b k s).2.pos = b.take s.pos ++ beN k (rdN b k s).1 := by
  have h1 := rdN_was h
  have h2 : k ≤ b.length - s.pos := by
    rcases Nat.lt_or_ge (b.length - s.pos) k with h3 | h3
    · rw [rdN_bad (.inr h3)] at h; cases h
    · exact h3
  rw [rdN_ok h1 h2]
  rcases Nat.eq_zero_or_pos k with h0 | h0
  · subst h0; simp [beN]
  · show b.take (s.pos + k) = b.take s.pos ++ beN k (numB (cutB b s.pos (s.pos + k)))
    rw [numB_beN k _ (cutB_len (by omega)), List.take_add]
    unfold cutB
    rw [show s.pos + k - s.pos = k by omega]
theorem rdf_take {b : List UInt8} {s : Rd} {most : Nat} (h : (rdF b most s).2.bad = false) : b.take (rdF b most s).2.pos = b.take s.pos ++ beN 1 (rdF b most s).1 := by
  unfold rdF at h ⊢
  split at h
  · cases h
  · rename_i hc
    rw [if_neg hc]
    exact rd_take h
theorem colF_pre2 {b : List UInt8} {one : Bool} {s : Rd} {i : Nat} : ∀ n, i < n → (colF b one n s).1.getD i 0 = (colF b one (i + 1) s).1.getD i 0
  | 0, h => absurd h (Nat.not_lt_zero _)
  | n + 1, h => by
    rcases Nat.eq_or_lt_of_le (Nat.le_of_lt_succ h) with h1 | h1
    · rw [h1]
    · have ih := colF_pre2 (b := b) (one := one) (s := s) n h1
      have hl := colF_len b one s n
      conv => lhs; rw [colF]
      split
      · show ((colF b one n s).1 ++ [_]).getD i 0 = _
        rw [getD_snoc, if_pos (by omega)]; exact ih
      · show ((colF b one n s).1 ++ [_]).getD i 0 = _
        rw [getD_snoc, if_pos (by omega)]; exact ih
theorem keyF_pre2 {b : List UInt8} {first : Bool} {s : Rd} {i : Nat} : ∀ n, i < n → (keyF b first n s).1.getD i false = (keyF b first (i + 1) s).1.getD i false
  | 0, h => absurd h (Nat.not_lt_zero _)
  | n + 1, h => by
    rcases Nat.eq_or_lt_of_le (Nat.le_of_lt_succ h) with h1 | h1
    · rw [h1]
    · have ih := keyF_pre2 (b := b) (first := first) (s := s) n h1
      have hl := keyF_len b first s n
      conv => lhs; rw [keyF]
      split
      · show ((keyF b first n s).1 ++ [_]).getD i false = _
        rw [getD_snoc, if_pos (by omega)]; exact ih
      · show ((keyF b first n s).1 ++ [_]).getD i false = _
        rw [getD_snoc, if_pos (by omega)]; exact ih
/-- A column is written as it was read. -/
theorem col_take {b : List UInt8} {one : Bool} {s : Rd} {n : Nat} (f : Smp → Int) (l : List Smp) (hf : ∀ i, i < n → f (l.getD i dS) = ((colF b one n s).1.getD i 0 : Int)) (hg : (colF b one n s).2.bad = false) :
    ∀ k, k ≤ n → b.take (colF b one k s).2.pos = b.take s.pos ++ colL f one l k
  | 0, _ => by rw [colF, colL_zero, List.append_nil]
  | k + 1, hk => by
    have ih := col_take f l hf hg k (by omega)
    have hgk : (colF b one (k + 1) s).2.bad = false := by
      cases hb : (colF b one (k + 1) s).2.bad with
      | false => rfl
      | true => rw [colF_more hb n hk, hb] at hg; cases hg
    rw [colL_succ, ← List.append_assoc, ← ih]
    have hfk := hf k (by omega)
    rw [colF_pre2 n (by omega)] at hfk
    have hl := colF_len b one s k
    by_cases hc : 0 < k ∧ one = true
    · rw [if_neg (by rw [hc.2]; simp; omega), List.append_nil, colF, if_pos hc]
    · have hc2 : k = 0 ∨ one = false := by
        rcases Nat.eq_zero_or_pos k with h0 | h0
        · exact .inl h0
        · right
          cases hm : one with
          | false => rfl
          | true => exact absurd ⟨h0, hm⟩ hc
      rw [colF, if_neg hc] at hfk hgk ⊢
      have hv : ((colF b one k s).1 ++ [(rdN b 4 (colF b one k s).2).1]).getD k 0 = (rdN b 4 (colF b one k s).2).1 := by rw [getD_snoc, if_neg (by omega), if_pos hl.symm]
      have hlt : (rdN b 4 (colF b one k s).2).1 < 4294967296 := rdN_lt (b := b) (k := 4) _ (by omega)
      rw [if_pos hc2, hfk]
      show b.take (rdN b 4 (colF b one k s).2).2.pos = _
      rw [rd_take hgk]
      show _ = _ ++ beN 4 (u64n ((((colF b one k s).1 ++ [(rdN b 4 (colF b one k s).2).1]).getD k 0 : Nat) : Int))
      rw [hv, u64n_pos (by omega) (by omega), Int.toNat_natCast]
theorem u64n_sgn4 {v : Nat} (h : v < 4294967296) : beN 4 (u64n (sgn4 v)) = beN 4 v := by
  have h2 := u64n_val (sgn4 v)
  rw [IntKind.wrap_u64] at h2
  have h3 : u64n (sgn4 v) % 256 ^ 4 = v := by
    show u64n (sgn4 v) % 4294967296 = v
    unfold sgn4 at h2 ⊢
    split at h2 <;> rename_i hc
    · rw [if_pos hc]; omega
    · rw [if_neg hc]; omega
  rw [← beN_mod, h3]
theorem colh_take {b : List UInt8} {s : Rd} {n : Nat} (l : List Smp) (hf : ∀ i, i < n → (l.getD i dS).shift = sgn4 ((colF b false n s).1.getD i 0)) (hg : (colF b false n s).2.bad = false) :
    ∀ k, k ≤ n → b.take (colF b false k s).2.pos = b.take s.pos ++ colL Smp.shift false l k
  | 0, _ => by rw [colF, colL_zero, List.append_nil]
  | k + 1, hk => by
    have ih := colh_take l hf hg k (by omega)
    have hgk : (colF b false (k + 1) s).2.bad = false := by
      cases hb : (colF b false (k + 1) s).2.bad with
      | false => rfl
      | true => rw [colF_more hb n hk, hb] at hg; cases hg
    rw [colL_succ, ← List.append_assoc, ← ih]
    have hfk := hf k (by omega)
    rw [colF_pre2 n (by omega)] at hfk
    have hl := colF_len b false s k
    have hc : ¬ (0 < k ∧ false = true) := fun hc => by cases hc.2
    rw [colF, if_neg hc] at hfk hgk ⊢
    have hv : ((colF b false k s).1 ++ [(rdN b 4 (colF b false k s).2).1]).getD k 0 = (rdN b 4 (colF b false k s).2).1 := by rw [getD_snoc, if_neg (by omega), if_pos hl.symm]
    have hlt : (rdN b 4 (colF b false k s).2).1 < 4294967296 := rdN_lt (b := b) (k := 4) _ (by omega)
    rw [if_pos (.inr rfl), hfk]
    show b.take (rdN b 4 (colF b false k s).2).2.pos = _
    rw [rd_take hgk]
    show _ = _ ++ beN 4 (u64n (sgn4 (((colF b false k s).1 ++ [(rdN b 4 (colF b false k s).2).1]).getD k 0)))
    rw [hv, u64n_sgn4 hlt]
theorem key_take {b : List UInt8} {first : Bool} {s : Rd} {n : Nat} (l : List Smp) (hf : ∀ i, i < n → (l.getD i dS).key = (keyF b first n s).1.getD i false) (hg : (keyF b first n s).2.bad = false) :
    ∀ k, k ≤ n → b.take (keyF b first k s).2.pos = b.take s.pos ++ keyL first l k
  | 0, _ => by rw [keyF, keyL_zero, List.append_nil]
  | k + 1, hk => by
    have ih := key_take l hf hg k (by omega)
    have hgk : (keyF b first (k + 1) s).2.bad = false := by
      cases hb : (keyF b first (k + 1) s).2.bad with
      | false => rfl
      | true => rw [keyF_more hb n hk, hb] at hg; cases hg
    rw [keyL_succ, ← List.append_assoc, ← ih]
    have hfk := hf k (by omega)
    rw [keyF_pre2 n (by omega)] at hfk
    have hl := keyF_len b first s k
    cases first with
    | true => rw [if_pos rfl, List.append_nil, keyF, if_pos rfl]
    | false =>
      have hc : ¬ (false = true) := fun hc => by cases hc
      rw [keyF, if_neg hc] at hfk hgk ⊢
      have hv : ((keyF b false k s).1 ++ [decide ((rdF b 1 (keyF b false k s).2).1 = 1)]).getD k false = decide ((rdF b 1 (keyF b false k s).2).1 = 1) := by rw [getD_snoc, if_neg (by omega), if_pos hl.symm]
      have hle : (rdF b 1 (keyF b false k s).2).1 ≤ 1 := rdF_le hgk
      rw [if_neg hc, hfk]
      show b.take (rdF b 1 (keyF b false k s).2).2.pos = _
      rw [rdf_take hgk]
      show _ = _ ++ [if ((keyF b false k s).1 ++ [decide ((rdF b 1 (keyF b false k s).2).1 = 1)]).getD k false = true then 1 else 0]
      rw [hv]
      generalize (rdF b 1 (keyF b false k s).2).1 = v at *
      congr 1
      rcases Nat.lt_or_ge v 1 with h1 | h1
      · obtain rfl : v = 0 := by omega
        rfl
      · obtain rfl : v = 1 := by omega
        rfl
theorem rf_zero {b : List UInt8} (h : rfF b = 0) : (endF b).bad = false ∧ ¬ (nF b = 0 ∧ tF b ≠ 0) ∧ (h4F b).1 = mkN (smF b) ∧ smpF (smF b) = 0 := by
  unfold rfF at h
  by_cases h1 : (endF b).bad = true
  · rw [if_pos h1] at h; omega
  rw [if_neg h1] at h
  by_cases h2 : nF b = 0 ∧ tF b ≠ 0
  · rw [if_pos h2] at h; omega
  rw [if_neg h2] at h
  by_cases h3 : (h4F b).1 ≠ mkN (smF b)
  · rw [if_pos h3] at h; omega
  rw [if_neg h3] at h
  exact ⟨by cases hb : (endF b).bad with
    | false => rfl
    | true => exact absurd hb h1, h2, Classical.byContradiction fun hc => h3 hc, h⟩
/-- What was read is written. -/
theorem fb_again {b : List UInt8} (h : rfF b = 0) : fragF (rfN b) (rfL b) = 0 ∧ fbytes (rfN b) (rfL b) = b := by
  obtain ⟨hg, ht, hm, hs⟩ := rf_zero h
  have en : rfN b = ((h1F b).1 : Int) := by unfold rfN; rw [if_pos h]
  have el : rfL b = smF b := by unfold rfL; rw [if_pos h]
  rw [en, el]
  have hn1 : (h1F b).1 < 4294967296 := rdN_lt (b := b) (k := 4) ⟨0, false⟩ (by omega)
  have hnl : nF b < 65536 := rdN_lt (b := b) (k := 2) (h2F b).2 (by omega)
  have hll : (smF b).length = nF b := mkSm_len _ _ _ _ _ _
  -- nothing was wrong
  have g4 : (c4F b (nF b)).2.bad = false ∧ b.length ≤ (c4F b (nF b)).2.pos := by
    unfold endF rdE at hg
    split at hg
    · cases hg
    · rename_i hc
      exact ⟨hg, Nat.le_of_not_lt fun h1 => hc ⟨hg, h1⟩⟩
  have g3 : (c3F b (nF b)).2.bad = false := by
    cases hb : (c3F b (nF b)).2.bad with
    | false => rfl
    | true => have h2 : (c4F b (nF b)).2 = (c3F b (nF b)).2 := keyF_bad hb _; rw [h2, hb] at g4; cases g4.1
  have g2 : (c2F b (nF b)).2.bad = false := by
    cases hb : (c2F b (nF b)).2.bad with
    | false => rfl
    | true => have h2 : (c3F b (nF b)).2 = (c2F b (nF b)).2 := colF_bad hb _; rw [h2, hb] at g3; cases g3
  have g1 : (c1F b (nF b)).2.bad = false := by
    cases hb : (c1F b (nF b)).2.bad with
    | false => rfl
    | true => have h2 : (c2F b (nF b)).2 = (c1F b (nF b)).2 := colO_bad hb _; rw [h2, hb] at g2; cases g2
  have g0 : (h4F b).2.bad = false := by
    cases hb : (h4F b).2.bad with
    | false => rfl
    | true => have h2 : (c1F b (nF b)).2 = (h4F b).2 := colF_bad hb _; rw [h2, hb] at g1; cases g1
  have gh3 : (h3F b).2.bad = false := rdF_was g0
  have gh2 : (h2F b).2.bad = false := rdN_was gh3
  have gh1 : (h1F b).2.bad = false := rdN_was gh2
  -- the marks
  have o1 : mS (smF b) = oneS b := by have := mkN_bit1 (smF b); unfold oneS; rw [hm, this]; cases mS (smF b) <;> rfl
  have o2 : mH (smF b) = noH b := by have := mkN_bit2 (smF b); unfold noH; rw [hm, this]; cases mH (smF b) <;> rfl
  have o3 : mZ (smF b) = oneZ b := by have := mkN_bit4 (smF b); unfold oneZ; rw [hm, this]; cases mZ (smF b) <;> rfl
  have o4 : mK (smF b) = fstK b := by
    have h8 := mkN_bit8 (smF b)
    unfold fstK; rw [hm]
    cases hk : mK (smF b) with
    | true => symm; rw [decide_eq_true_iff]; exact Nat.le_of_not_lt fun hc => by rw [h8.1 hc] at hk; cases hk
    | false => symm; rw [decide_eq_false_iff_not]; have := h8.2 hk; omega
  -- the head
  have t1 : b.take (h1F b).2.pos = beN 4 (h1F b).1 := by have := rd_take (b := b) (s := ⟨0, false⟩) (k := 4) gh1; rw [show b.take (⟨0, false⟩ : Rd).pos = [] from rfl, List.nil_append] at this; exact this
  have t2 : b.take (h2F b).2.pos = beN 4 (h1F b).1 ++ beN 8 (h2F b).1 := by rw [← t1]; exact rd_take gh2
  have t3 : b.take (h3F b).2.pos = beN 4 (h1F b).1 ++ beN 8 (h2F b).1 ++ beN 2 (h3F b).1 := by rw [← t2]; exact rd_take gh3
  have t4 : b.take (h4F b).2.pos = beN 4 (h1F b).1 ++ beN 8 (h2F b).1 ++ beN 2 (h3F b).1 ++ beN 1 (h4F b).1 := by rw [← t3]; exact rdf_take g0
  have hv2 : (h2F b).1 < 18446744073709551616 := rdN_lt (b := b) (k := 8) (h1F b).2 (by omega)
  have ets : timeS (smF b) = tF b := by
    unfold timeS
    rw [hll]
    split
    · rename_i h0
      unfold smF
      rw [mkSm_get h0]; rfl
    · rename_i h0
      exact (Classical.byContradiction fun hc => ht ⟨by omega, fun h9 => hc h9.symm⟩)
  have eu2 : u64n (tF b) = (h2F b).1 := by
    have h2 := u64n_val (tF b)
    rw [IntKind.wrap_u64] at h2
    have h3 : tF b = IntKind.i64.wrap ((h2F b).1 : Int) := rfl
    rw [IntKind.wrap_i64] at h3
    omega
  have hh : fhead ((h1F b).1 : Int) (smF b) = b.take (h4F b).2.pos := by
    unfold fhead
    rw [t4, ets, eu2, hll, u64n_pos (x := ((h1F b).1 : Int)) (by omega) (by omega), u64n_pos (x := (nF b : Int)) (by omega) (by omega), Int.toNat_natCast, Int.toNat_natCast, ← hm]
    rfl
  have f1 : fb1 ((h1F b).1 : Int) (smF b) (smF b).length = b.take (c1F b (nF b)).2.pos := by
    unfold fb1
    rw [hh, o1, hll]
    exact (col_take (n := nF b) Smp.step (smF b) (fun i hi => by unfold smF; rw [mkSm_get hi]; rfl) g1 _ (Nat.le_refl _)).symm
  have f2 : fb2 ((h1F b).1 : Int) (smF b) (smF b).length = b.take (c2F b (nF b)).2.pos := by
    unfold fb2 colH
    rw [f1, o2, hll]
    unfold c2F colO at g2 ⊢
    cases hno : noH b with
    | true => simp
    | false =>
      rw [hno] at g2
      rw [if_neg (by simp), if_neg (by simp)]
      rw [if_neg (by simp)] at g2
      refine (colh_take (n := nF b) (smF b) (fun i hi => ?_) g2 _ (Nat.le_refl _)).symm
      unfold smF
      rw [mkSm_get hi]
      show (c2F b (nF b)).1.getD i 0 = _
      unfold c2F colO
      rw [hno, if_neg (by simp)]
      rw [List.getD_eq_getElem?_getD, List.getElem?_map, List.getD_eq_getElem?_getD]
      have hl := colF_len b false (c1F b (nF b)).2 (nF b)
      rw [List.getElem?_eq_getElem (by omega)]; rfl
  have f3 : fb3 ((h1F b).1 : Int) (smF b) (smF b).length = b.take (c3F b (nF b)).2.pos := by
    unfold fb3
    rw [f2, o3, hll]
    exact (col_take (n := nF b) Smp.size (smF b) (fun i hi => by unfold smF; rw [mkSm_get hi]; rfl) g3 _ (Nat.le_refl _)).symm
  have f4 : fb4 ((h1F b).1 : Int) (smF b) (smF b).length = b.take (c4F b (nF b)).2.pos := by
    unfold fb4
    rw [f3, o4, hll]
    exact (key_take (n := nF b) (smF b) (fun i hi => by unfold smF; rw [mkSm_get hi]; rfl) g4.1 _ (Nat.le_refl _)).symm
  refine ⟨?_, ?_⟩
  · unfold fragF; rw [if_neg (by omega)]; exact hs
  · unfold fbytes; rw [f4]; exact List.take_of_length_le g4.2
end Go.Proofs.Ytgnmnhlhiiehfaa
