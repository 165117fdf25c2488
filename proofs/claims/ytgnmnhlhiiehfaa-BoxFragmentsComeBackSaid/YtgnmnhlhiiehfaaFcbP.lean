/- A fragment read as it was written, in plain words. Plain. -/
import Derived.Test.YtgnmnhlhiiehfaaRfP
namespace Go.Proofs.Ytgnmnhlhiiehfaa
theorem numB_beN_mod : ∀ (m n : Nat), numB (beN m n) = n % 256 ^ m
  | 0, n => by rw [beN, Nat.pow_zero, Nat.mod_one]; rfl
  | m + 1, n => by
    have h1 : n % 256 ^ (m + 1) = n % 256 + 256 * (n / 256 % 256 ^ m) := by rw [Nat.pow_succ, Nat.mul_comm (256 ^ m) 256, Nat.mod_mul]
    rw [beN, numB_snoc, numB_beN_mod m, UInt8.toNat_ofNat', h1]
    show n / 256 % 256 ^ m * 256 + n % 256 = _
    omega
theorem beN_mod (m n : Nat) : beN m (n % 256 ^ m) = beN m n := by
  rw [← numB_beN_mod, numB_beN m _ (beN_len m n)]
theorem cut_pre {b pre mid : List UInt8} (h : pre ++ mid <+: b) : cutB b pre.length (pre.length + mid.length) = mid := by
  obtain ⟨post, rfl⟩ := h
  unfold cutB
  rw [List.append_assoc, List.drop_left, show pre.length + mid.length - pre.length = mid.length by omega, List.take_left]
theorem rd_pre {b pre : List UInt8} {k v : Nat} (h : pre ++ beN k v <+: b) : rdN b k ⟨pre.length, false⟩ = (v % 256 ^ k, ⟨(pre ++ beN k v).length, false⟩) := by
  have hl := h.length_le
  rw [List.length_append, beN_len] at hl
  rw [rdN_ok rfl (by show k ≤ b.length - pre.length; omega)]
  have := cut_pre h
  rw [beN_len] at this
  show (numB (cutB b pre.length (pre.length + k)), _) = _
  rw [this, numB_beN_mod, List.length_append, beN_len]
theorem rdf_pre {b pre : List UInt8} {v most : Nat} (h : pre ++ beN 1 v <+: b) (hv : v < 256) (hm : v ≤ most) : rdF b most ⟨pre.length, false⟩ = (v, ⟨(pre ++ beN 1 v).length, false⟩) := by
  have h1 := rd_pre h
  rw [Nat.pow_one, Nat.mod_eq_of_lt hv] at h1
  unfold rdF
  rw [h1, if_neg (fun hc => by have h2 : most < v := hc.2; omega)]
theorem colL_pre (f : Smp → Int) (one : Bool) (l : List Smp) {k : Nat} : ∀ n, k ≤ n → colL f one l k <+: colL f one l n
  | 0, h => by rw [show k = 0 by omega]; exact List.prefix_refl _
  | n + 1, h => by
    rcases Nat.eq_or_lt_of_le h with h1 | h1
    · rw [h1]; exact List.prefix_refl _
    · exact (colL_pre f one l n (by omega)).trans (by rw [colL_succ]; exact List.prefix_append _ _)
theorem keyL_pre (no : Bool) (l : List Smp) {k : Nat} : ∀ n, k ≤ n → keyL no l k <+: keyL no l n
  | 0, h => by rw [show k = 0 by omega]; exact List.prefix_refl _
  | n + 1, h => by
    rcases Nat.eq_or_lt_of_le h with h1 | h1
    · rw [h1]; exact List.prefix_refl _
    · exact (keyL_pre no l n (by omega)).trans (by rw [keyL_succ]; exact List.prefix_append _ _)
theorem pre_app {a b c : List UInt8} (h : b <+: c) : a ++ b <+: a ++ c := by
  obtain ⟨d, rfl⟩ := h
  exact ⟨d, by rw [List.append_assoc]⟩
theorem fb4_pre {num : Int} {l : List Smp} {k : Nat} (h : k ≤ l.length) : fb4 num l k <+: fbytes num l := by unfold fbytes fb4; exact pre_app (keyL_pre _ _ _ h)
theorem fb3_pre {num : Int} {l : List Smp} {k : Nat} (h : k ≤ l.length) : fb3 num l k <+: fbytes num l := by
  refine List.IsPrefix.trans (l₂ := fb3 num l l.length) ?_ (by unfold fbytes fb4; exact List.prefix_append _ _)
  unfold fb3; exact pre_app (colL_pre _ _ _ _ h)
theorem fb2_pre {num : Int} {l : List Smp} {k : Nat} (h : k ≤ l.length) : fb2 num l k <+: fbytes num l := by
  refine List.IsPrefix.trans (l₂ := fb2 num l l.length) ?_ (List.IsPrefix.trans (l₂ := fb3 num l 0) (by unfold fb3; exact List.prefix_append _ _) (fb3_pre (Nat.zero_le _)))
  unfold fb2 colH
  split
  · exact List.prefix_refl _
  · exact pre_app (colL_pre _ _ _ _ h)
theorem fb1_pre {num : Int} {l : List Smp} {k : Nat} (h : k ≤ l.length) : fb1 num l k <+: fbytes num l := by
  refine List.IsPrefix.trans (l₂ := fb1 num l l.length) ?_ (List.IsPrefix.trans (l₂ := fb2 num l 0) (by unfold fb2; exact List.prefix_append _ _) (fb2_pre (Nat.zero_le _)))
  unfold fb1; exact pre_app (colL_pre _ _ _ _ h)
theorem fhead_pre (num : Int) (l : List Smp) : fhead num l <+: fbytes num l := by
  have := fb1_pre (num := num) (l := l) (k := 0) (Nat.zero_le _)
  unfold fb1 at this
  rwa [colL_zero, List.append_nil] at this
section
variable {num : Int} {l : List Smp}
theorem ok_parts (h : fragF num l = 0) : (0 ≤ num ∧ num ≤ 4294967295) ∧ smpF l = 0 := by
  unfold fragF at h
  split at h
  · omega
  · exact ⟨by omega, h⟩
theorem ok_len (h : smpF l = 0) : l.length ≤ 5000 := (smpF_zero h).1
theorem ok_bad (h : smpF l = 0) {i : Nat} (hi : i < l.length) : (-1000000000000000 ≤ (l.getD i dS).time ∧ (l.getD i dS).time ≤ 1000000000000000) ∧ (0 ≤ (l.getD i dS).step ∧ (l.getD i dS).step ≤ 1000000000) ∧ (-1000000000 ≤ (l.getD i dS).shift ∧ (l.getD i dS).shift ≤ 1000000000) ∧ (0 ≤ (l.getD i dS).size ∧ (l.getD i dS).size ≤ 100000) :=
  badS_ok (smpEl_zero ((smpF_zero h).2.1 i hi)).1
theorem time_ok (h : smpF l = 0) : -1000000000000000 ≤ timeS l ∧ timeS l ≤ 1000000000000000 := by
  unfold timeS
  split
  · rename_i h0; exact (ok_bad h h0).1
  · omega
theorem u64n_small {x : Int} (h0 : 0 ≤ x) (h1 : x < 4294967296) : u64n x = x.toNat ∧ u64n x < 4294967296 := by
  have := u64n_pos h0 (by omega)
  exact ⟨this, by omega⟩
/-- The head that is read. -/
theorem head_read (h : fragF num l = 0) : h1F (fbytes num l) = (num.toNat, ⟨4, false⟩) ∧ h2F (fbytes num l) = (u64n (timeS l), ⟨12, false⟩) ∧ h3F (fbytes num l) = (l.length, ⟨14, false⟩) ∧ h4F (fbytes num l) = (mkN l, ⟨15, false⟩) := by
  obtain ⟨hn, hs⟩ := ok_parts h
  have hl := ok_len hs
  have hp := fhead_pre num l
  have e0 : fhead num l = beN 4 (u64n num) ++ beN 8 (u64n (timeS l)) ++ beN 2 (u64n l.length) ++ beN 1 (mkN l) := rfl
  have p1 : [] ++ beN 4 (u64n num) <+: fbytes num l := List.IsPrefix.trans (by rw [e0, List.nil_append, List.append_assoc, List.append_assoc]; exact List.prefix_append _ _) hp
  have p2 : beN 4 (u64n num) ++ beN 8 (u64n (timeS l)) <+: fbytes num l := List.IsPrefix.trans (by rw [e0, List.append_assoc]; exact List.prefix_append _ _) hp
  have p3 : beN 4 (u64n num) ++ beN 8 (u64n (timeS l)) ++ beN 2 (u64n l.length) <+: fbytes num l := List.IsPrefix.trans (by rw [e0]; exact List.prefix_append _ _) hp
  have p4 : beN 4 (u64n num) ++ beN 8 (u64n (timeS l)) ++ beN 2 (u64n l.length) ++ beN 1 (mkN l) <+: fbytes num l := by rw [e0] at hp; exact hp
  have r1 := rd_pre p1
  have r2 := rd_pre p2
  have r3 := rd_pre p3
  have r4 := rdf_pre (most := 15) p4 (by have := mkN_lt l; omega) (by have := mkN_lt l; omega)
  have v1 : u64n num % 256 ^ 4 = num.toNat := by rw [(u64n_small hn.1 (by omega)).1]; exact Nat.mod_eq_of_lt (by show num.toNat < 4294967296; omega)
  have v2 : u64n (timeS l) % 256 ^ 8 = u64n (timeS l) := Nat.mod_eq_of_lt (u64n_lt _)
  have v3 : u64n (l.length : Int) % 256 ^ 2 = l.length := by rw [u64n_pos (by omega) (by omega), Int.toNat_natCast]; exact Nat.mod_eq_of_lt (by show l.length < 65536; omega)
  rw [v1] at r1
  rw [v2] at r2
  rw [v3] at r3
  have e1 : h1F (fbytes num l) = (num.toNat, ⟨4, false⟩) := by unfold h1F; simp only [List.length_nil] at r1; rw [r1]; simp [beN_len]
  have e2 : h2F (fbytes num l) = (u64n (timeS l), ⟨12, false⟩) := by unfold h2F; rw [e1]; rw [beN_len] at r2; rw [r2]; simp [beN_len]
  have e3 : h3F (fbytes num l) = (l.length, ⟨14, false⟩) := by unfold h3F; rw [e2]; simp only [List.length_append, beN_len] at r3; rw [r3]
  have e4 : h4F (fbytes num l) = (mkN l, ⟨15, false⟩) := by unfold h4F; rw [e3]; simp only [List.length_append, beN_len] at r4; rw [r4]
  exact ⟨e1, e2, e3, e4⟩
theorem range_snoc {α : Type} (f : Nat → α) (k : Nat) : (List.range (k + 1)).map f = (List.range k).map f ++ [f k] := by rw [List.range_succ, List.map_append]; rfl
theorem range_get {α : Type} (f : Nat → α) (d : α) {k i : Nat} (h : i < k) : ((List.range k).map f).getD i d = f i := by
  rw [List.getD_eq_getElem?_getD, List.getElem?_map, List.getElem?_range h]; rfl
theorem mS_all (h : mS l = true) {j : Nat} (hj : j < l.length) : (l.getD j dS).step = (l.getD 0 dS).step := by
  have := of_decide_eq_true h; exact this j hj
theorem mH_all (h : mH l = true) {j : Nat} (hj : j < l.length) : (l.getD j dS).shift = 0 := by
  have := of_decide_eq_true h; exact this j hj
theorem mZ_all (h : mZ l = true) {j : Nat} (hj : j < l.length) : (l.getD j dS).size = (l.getD 0 dS).size := by
  have := of_decide_eq_true h; exact this j hj
theorem mK_all (h : mK l = true) {j : Nat} (hj : j < l.length) : (l.getD j dS).key = decide (j = 0) := by
  have h1 := (Bool.and_eq_true _ _ ▸ h : _ ∧ _).2
  have := of_decide_eq_true h1; exact this j hj
theorem c1_read (h : fragF num l = 0) : ∀ k, k ≤ l.length → colF (fbytes num l) (mS l) k ⟨15, false⟩ = ((List.range k).map (fun i => (l.getD i dS).step.toNat), ⟨(fb1 num l k).length, false⟩)
  | 0, _ => by rw [colF]; unfold fb1; rw [colL_zero, List.append_nil, fhead_len]; rfl
  | k + 1, hk => by
    obtain ⟨_, hs⟩ := ok_parts h
    have ih := c1_read h k (by omega)
    rw [colF, ih]
    have hsu : fb1 num l (k + 1) = fb1 num l k ++ if k = 0 ∨ mS l = false then beN 4 (u64n (l.getD k dS).step) else [] := by unfold fb1; rw [colL_succ, ← List.append_assoc]
    have hst := (ok_bad hs (i := k) (by omega)).2.1
    by_cases hc : 0 < k ∧ mS l = true
    · rw [if_pos hc, hsu, if_neg (by rw [hc.2]; simp; omega), List.append_nil, range_snoc, range_get _ _ hc.1, mS_all hc.2 (j := k) (by omega)]
    · have hc2 : k = 0 ∨ mS l = false := by
        rcases Nat.eq_zero_or_pos k with h0 | h0
        · exact .inl h0
        · right
          cases hm : mS l with
          | false => rfl
          | true => exact absurd ⟨h0, hm⟩ hc
      have hp := fb1_pre (num := num) (l := l) hk
      rw [hsu, if_pos hc2] at hp
      have hr := rd_pre hp
      have hu := u64n_small (x := (l.getD k dS).step) (by omega) (by omega)
      rw [show u64n (l.getD k dS).step % 256 ^ 4 = (l.getD k dS).step.toNat by rw [Nat.mod_eq_of_lt hu.2]; exact hu.1] at hr
      rw [if_neg hc, range_snoc]
      show (_ ++ [(rdN _ 4 ⟨(fb1 num l k).length, false⟩).1], (rdN _ 4 ⟨(fb1 num l k).length, false⟩).2) = _
      rw [hr, hsu, if_pos hc2]
theorem c3_read (h : fragF num l = 0) : ∀ k, k ≤ l.length → colF (fbytes num l) (mZ l) k ⟨(fb2 num l l.length).length, false⟩ = ((List.range k).map (fun i => (l.getD i dS).size.toNat), ⟨(fb3 num l k).length, false⟩)
  | 0, _ => by rw [colF]; unfold fb3; rw [colL_zero, List.append_nil]; rfl
  | k + 1, hk => by
    obtain ⟨_, hs⟩ := ok_parts h
    have ih := c3_read h k (by omega)
    rw [colF, ih]
    have hsu : fb3 num l (k + 1) = fb3 num l k ++ if k = 0 ∨ mZ l = false then beN 4 (u64n (l.getD k dS).size) else [] := by unfold fb3; rw [colL_succ, ← List.append_assoc]
    have hst := (ok_bad hs (i := k) (by omega)).2.2.2
    by_cases hc : 0 < k ∧ mZ l = true
    · rw [if_pos hc, hsu, if_neg (by rw [hc.2]; simp; omega), List.append_nil, range_snoc, range_get _ _ hc.1, mZ_all hc.2 (j := k) (by omega)]
    · have hc2 : k = 0 ∨ mZ l = false := by
        rcases Nat.eq_zero_or_pos k with h0 | h0
        · exact .inl h0
        · right
          cases hm : mZ l with
          | false => rfl
          | true => exact absurd ⟨h0, hm⟩ hc
      have hp := fb3_pre (num := num) (l := l) hk
      rw [hsu, if_pos hc2] at hp
      have hr := rd_pre hp
      have hu := u64n_small (x := (l.getD k dS).size) (by omega) (by omega)
      rw [show u64n (l.getD k dS).size % 256 ^ 4 = (l.getD k dS).size.toNat by rw [Nat.mod_eq_of_lt hu.2]; exact hu.1] at hr
      rw [if_neg hc, range_snoc]
      show (_ ++ [(rdN _ 4 ⟨(fb3 num l k).length, false⟩).1], (rdN _ 4 ⟨(fb3 num l k).length, false⟩).2) = _
      rw [hr, hsu, if_pos hc2]
theorem sgn4_u64 {x : Int} (h0 : -1000000000 ≤ x) (h1 : x ≤ 1000000000) : sgn4 (u64n x % 256 ^ 4) = x := by
  have h2 := u64n_val x
  rw [IntKind.wrap_u64] at h2
  have h3 : u64n x % 256 ^ 4 = u64n x % 4294967296 := rfl
  rw [h3]
  unfold sgn4
  split <;> omega
theorem c2_readF (h : fragF num l = 0) (hm : mH l = false) : ∀ k, k ≤ l.length → (colF (fbytes num l) false k ⟨(fb1 num l l.length).length, false⟩).1.map sgn4 = (List.range k).map (fun i => (l.getD i dS).shift) ∧ (colF (fbytes num l) false k ⟨(fb1 num l l.length).length, false⟩).2 = ⟨(fb2 num l k).length, false⟩
  | 0, _ => by rw [colF]; unfold fb2 colH; rw [hm, colL_zero]; simp
  | k + 1, hk => by
    obtain ⟨_, hs⟩ := ok_parts h
    obtain ⟨ih1, ih2⟩ := c2_readF h hm k (by omega)
    have hsu : fb2 num l (k + 1) = fb2 num l k ++ beN 4 (u64n (l.getD k dS).shift) := by unfold fb2 colH; rw [hm]; simp [colL_succ]
    have hst := (ok_bad hs (i := k) (by omega)).2.2.1
    have hp := fb2_pre (num := num) (l := l) hk
    rw [hsu] at hp
    have hr := rd_pre hp
    rw [colF, if_neg (fun hc => by cases hc.2), ih2]
    refine ⟨?_, ?_⟩
    · rw [List.map_append, ih1, range_snoc, hr]
      show _ ++ [sgn4 (u64n (l.getD k dS).shift % 256 ^ 4)] = _
      rw [sgn4_u64 hst.1 hst.2]
    · rw [hr, hsu]
theorem c2_read (h : fragF num l = 0) : colO (fbytes num l) (mH l) l.length ⟨(fb1 num l l.length).length, false⟩ = ((List.range l.length).map (fun i => (l.getD i dS).shift), ⟨(fb2 num l l.length).length, false⟩) := by
  unfold colO
  cases hm : mH l with
  | true =>
    rw [if_pos rfl]
    have e1 : fb2 num l l.length = fb1 num l l.length := by unfold fb2 colH; rw [hm]; simp
    rw [e1]
    congr 1
    apply List.ext_getElem?
    intro i
    rw [List.getElem?_replicate, List.getElem?_map]
    by_cases hi : i < l.length
    · rw [if_pos hi, List.getElem?_range hi]; show some 0 = some (l.getD i dS).shift; rw [mH_all hm hi]
    · rw [if_neg hi, List.getElem?_eq_none (by simp; omega)]; rfl
  | false =>
    rw [if_neg (by simp)]
    obtain ⟨h1, h2⟩ := c2_readF h hm l.length (Nat.le_refl _)
    rw [h1, h2]
theorem c4_read (h : fragF num l = 0) : ∀ k, k ≤ l.length → keyF (fbytes num l) (mK l) k ⟨(fb3 num l l.length).length, false⟩ = ((List.range k).map (fun i => (l.getD i dS).key), ⟨(fb4 num l k).length, false⟩)
  | 0, _ => by rw [keyF]; unfold fb4; rw [keyL_zero, List.append_nil]; rfl
  | k + 1, hk => by
    have ih := c4_read h k (by omega)
    rw [keyF, ih, range_snoc]
    have hsu : fb4 num l (k + 1) = fb4 num l k ++ if mK l = true then [] else [if (l.getD k dS).key = true then 1 else 0] := by unfold fb4; rw [keyL_succ, ← List.append_assoc]
    cases hm : mK l with
    | true =>
      rw [if_pos rfl, hsu, hm, if_pos rfl, List.append_nil, mK_all hm (j := k) (by omega)]
    | false =>
      rw [if_neg (by simp)]
      have hp := fb4_pre (num := num) (l := l) hk
      have e1 : [if (l.getD k dS).key = true then (1 : UInt8) else 0] = beN 1 (if (l.getD k dS).key = true then 1 else 0) := by cases (l.getD k dS).key <;> rfl
      have hsu2 : fb4 num l (k + 1) = fb4 num l k ++ beN 1 (if (l.getD k dS).key = true then 1 else 0) := by rw [hsu, hm, ← e1]; rfl
      rw [hsu2] at hp
      have hr := rdf_pre (most := 1) hp (by split <;> omega) (by split <;> omega)
      have hv : decide ((if (l.getD k dS).key = true then 1 else 0) = 1) = (l.getD k dS).key := by cases (l.getD k dS).key <;> rfl
      show (_ ++ [decide ((rdF _ 1 ⟨(fb4 num l k).length, false⟩).1 = 1)], (rdF _ 1 ⟨(fb4 num l k).length, false⟩).2) = _
      rw [hr, hsu2]
      show (_ ++ [decide ((if (l.getD k dS).key = true then 1 else 0) = 1)], _) = _
      rw [hv]
theorem time_read (h : smpF l = 0) : ∀ k, k < l.length → tmF (timeS l) ((List.range l.length).map (fun i => (l.getD i dS).step.toNat)) k = (l.getD k dS).time
  | 0, hk => by show timeS l = _; unfold timeS; rw [if_pos hk]
  | k + 1, hk => by
    have ih := time_read h k (by omega)
    have hb := ok_bad h (i := k) (by omega)
    have he := (smpEl_zero ((smpF_zero h).2.1 (k + 1) hk)).2 (by omega)
    rw [Nat.add_sub_cancel] at he
    rw [tmF, ih, range_get _ _ (by omega), he, Int.toNat_of_nonneg hb.2.1.1, IntKind.wrap_i64]
    omega
/-- What was written is read. -/
theorem fb_back (h : fragF num l = 0) : rfF (fbytes num l) = 0 ∧ rfA (fbytes num l) = 0 ∧ rfN (fbytes num l) = num ∧ rfL (fbytes num l) = l := by
  obtain ⟨hn, hs⟩ := ok_parts h
  obtain ⟨e1, e2, e3, e4⟩ := head_read h
  have o1 : oneS (fbytes num l) = mS l := by unfold oneS; rw [e4, mkN_bit1]; cases mS l <;> rfl
  have o2 : noH (fbytes num l) = mH l := by unfold noH; rw [e4, mkN_bit2]; cases mH l <;> rfl
  have o3 : oneZ (fbytes num l) = mZ l := by unfold oneZ; rw [e4, mkN_bit4]; cases mZ l <;> rfl
  have o4 : fstK (fbytes num l) = mK l := by
    unfold fstK; rw [e4]
    have := mkN_bit8 l
    cases hm : mK l with
    | true => rw [decide_eq_true_iff]; exact Nat.le_of_not_lt fun hc => by rw [this.1 hc] at hm; cases hm
    | false => rw [decide_eq_false_iff_not]; have := this.2 hm; show ¬ 8 ≤ mkN l; omega
  have en : nF (fbytes num l) = l.length := by unfold nF; rw [e3]
  have et : tF (fbytes num l) = timeS l := by
    unfold tF; rw [e2]
    have h2 := u64n_val (timeS l)
    have h3 := time_ok hs
    rw [IntKind.wrap_u64] at h2
    rw [IntKind.wrap_i64]
    show _ = timeS l
    omega
  have r1 : c1F (fbytes num l) l.length = ((List.range l.length).map (fun i => (l.getD i dS).step.toNat), ⟨(fb1 num l l.length).length, false⟩) := by unfold c1F; rw [o1, e4]; exact c1_read h _ (Nat.le_refl _)
  have r2 : c2F (fbytes num l) l.length = ((List.range l.length).map (fun i => (l.getD i dS).shift), ⟨(fb2 num l l.length).length, false⟩) := by unfold c2F; rw [en, r1, o2]; exact c2_read h
  have r3 : c3F (fbytes num l) l.length = ((List.range l.length).map (fun i => (l.getD i dS).size.toNat), ⟨(fb3 num l l.length).length, false⟩) := by unfold c3F; rw [en, r2, o3]; exact c3_read h _ (Nat.le_refl _)
  have r4 : c4F (fbytes num l) l.length = ((List.range l.length).map (fun i => (l.getD i dS).key), ⟨(fb4 num l l.length).length, false⟩) := by unfold c4F; rw [en, r3, o4]; exact c4_read h _ (Nat.le_refl _)
  have r5 : endF (fbytes num l) = ⟨(fb4 num l l.length).length, false⟩ := by
    unfold endF; rw [en, r4]
    unfold rdE
    rw [if_neg (fun hc => by have h2 : (fb4 num l l.length).length < (fbytes num l).length := hc.2; exact Nat.lt_irrefl _ h2)]
  have es : smF (fbytes num l) = l := by
    unfold smF; rw [en, et, r1, r2, r3, r4]
    apply List.ext_getElem?
    intro i
    by_cases hi : i < l.length
    · have hb := ok_bad hs hi
      unfold mkSm
      rw [List.getElem?_map, List.getElem?_range hi]
      show some (Smp.mk _ _ _ _ _) = _
      simp only
      rw [time_read hs i hi, range_get _ _ hi, range_get _ _ hi, range_get _ _ hi, range_get _ _ hi, Int.toNat_of_nonneg hb.2.1.1, Int.toNat_of_nonneg hb.2.2.2.1, List.getElem?_eq_getElem hi]
      rw [show l.getD i dS = l[i] by simp [List.getD, hi]]
    · rw [List.getElem?_eq_none (by rw [mkSm_len]; omega), List.getElem?_eq_none (by omega)]
  have ho := rf_ok r5 (by rw [en, et]; rintro ⟨h1, h2⟩; apply h2; unfold timeS; rw [if_neg (by omega)]) (by rw [e4, es])
  rw [es, hs] at ho
  refine ⟨ho.1, ho.2, ?_, ?_⟩
  · unfold rfN; rw [ho.1, if_pos rfl, e1]; show ((num.toNat : Nat) : Int) = num; omega
  · unfold rfL; rw [ho.1, if_pos rfl, es]
end
end Go.Proofs.Ytgnmnhlhiiehfaa
