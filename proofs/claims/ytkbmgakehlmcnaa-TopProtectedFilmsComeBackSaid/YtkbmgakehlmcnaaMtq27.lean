/- Several texts in one: Plain: what is put into a table comes out of it. Conditions as stated; Plain: a table that Compact makes is right and tells its samples; a table's samples make a table that is not longer. Conditions as stated; Marks of samples in plain words. Plain; Walk: written (reference). Conditions as stated; A fragment's bytes in plain words. Plain. -/
import Derived.Test.YtkbmgakehlmcnaaMtq26
import Derived.Test.YtkbmgakehlmcnaaMtq00
import Derived.Test.YtkbmgakehlmcnaaMtq19
import Derived.Test.YtkbmgakehlmcnaaMtq07
import Derived.Test.YtkbmgakehlmcnaaMtq22
namespace Go.Proofs.Ytkbmgakehlmcnaa
theorem addR_app {l : List (Int × Int)} {x : Int} (h : ¬ (0 < l.length ∧ (l.getD (l.length - 1) (0, 0)).2 = x)) : addR l x = l ++ [(1, x)] := by unfold addR; rw [if_neg h]
theorem last_split {l : List (Int × Int)} (h : 0 < l.length) : l = l.take (l.length - 1) ++ [l.getD (l.length - 1) (0, 0)] := by
  have := getD_take l (l.length - 1) (0, 0) (by omega)
  rw [show l.length - 1 + 1 = l.length by omega, List.take_length] at this
  exact this
theorem addR_in {l : List (Int × Int)} {x : Int} (h : 0 < l.length ∧ (l.getD (l.length - 1) (0, 0)).2 = x) : addR l x = l.take (l.length - 1) ++ [((l.getD (l.length - 1) (0, 0)).1 + 1, x)] := by
  unfold addR
  rw [if_pos h]
  generalize hy : (l.getD (l.length - 1) (0, 0)).1 + 1 = y
  have h1 := last_split h.1
  have h2 : (l.take (l.length - 1)).length = l.length - 1 := by rw [List.length_take]; omega
  obtain ⟨m, hm⟩ : ∃ m, m = l.length - 1 := ⟨_, rfl⟩
  rw [← hm] at h1 h2 ⊢
  generalize l.getD m (0, 0) = z at h1
  generalize l.take m = l0 at *
  subst h1
  rw [List.set_append_right _ _ (by omega), h2, Nat.sub_self]
  rfl
theorem valsR_app (a b : List (Int × Int)) : valsR (a ++ b) = valsR a ++ valsR b := by unfold valsR; rw [List.flatMap_append]
theorem valsR_one (c y : Int) : valsR [(c, y)] = List.replicate c.toNat y := by simp [valsR]
theorem valsR_add {l : List (Int × Int)} {x : Int} (h : 0 < l.length → 0 ≤ (l.getD (l.length - 1) (0, 0)).1) : valsR (addR l x) = valsR l ++ [x] := by
  by_cases hc : 0 < l.length ∧ (l.getD (l.length - 1) (0, 0)).2 = x
  · have h1 := last_split hc.1
    have h0 := h hc.1
    rw [addR_in hc, valsR_app, valsR_one]
    have e : valsR l = valsR (l.take (l.length - 1)) ++ List.replicate (l.getD (l.length - 1) (0, 0)).1.toNat x := by
      conv => lhs; rw [h1]
      rw [valsR_app]
      congr 1
      rw [show l.getD (l.length - 1) (0, 0) = ((l.getD (l.length - 1) (0, 0)).1, (l.getD (l.length - 1) (0, 0)).2) from rfl, valsR_one, hc.2]
    rw [e, List.append_assoc]
    congr 1
    rw [show ((l.getD (l.length - 1) (0, 0)).1 + 1).toNat = (l.getD (l.length - 1) (0, 0)).1.toNat + 1 by omega, List.replicate_succ']
  · rw [addR_app hc, valsR_app, valsR_one]; rfl
theorem rowK_vals (f : Smp → Int) (l : List Smp) : ∀ k, k ≤ l.length → valsR (rowK f l k) = mapR k (fun i => f (l.getD i dS))
  | 0, _ => rfl
  | k + 1, hk => by
    have h1 := rowK_bd f l k
    rw [rowK, valsR_add (fun h0 => by have := h1.2 _ (show (rowK f l k).length - 1 < _ by omega); omega), rowK_vals f l k (by omega), mapR_succ]
theorem addR_mem {l : List (Int × Int)} {x : Int} {P : Int → Prop} (h : ∀ i, i < l.length → P (l.getD i (0, 0)).2) (hx : P x) : ∀ i, i < (addR l x).length → P ((addR l x).getD i (0, 0)).2 := by
  intro i hi
  unfold addR at hi ⊢
  split at hi
  · rename_i hc
    rw [if_pos hc]
    rw [List.length_set] at hi
    by_cases hl : i = l.length - 1
    · subst hl
      rw [List.getD_eq_getElem?_getD, List.getElem?_set_self (by omega)]; exact hx
    · rw [List.getD_eq_getElem?_getD, List.getElem?_set_ne (by omega), ← List.getD_eq_getElem?_getD]; exact h i hi
  · rename_i hc
    rw [if_neg hc]
    rw [List.length_append] at hi
    simp only [List.length_cons, List.length_nil] at hi
    by_cases hl : i < l.length
    · rw [List.getD_eq_getElem?_getD, List.getElem?_append_left hl, ← List.getD_eq_getElem?_getD]; exact h i hl
    · obtain rfl : i = l.length := by omega
      rw [List.getD_eq_getElem?_getD, List.getElem?_append_right (Nat.le_refl _)]; simpa using hx
theorem rowK_mem (f : Smp → Int) (l : List Smp) {P : Int → Prop} : ∀ k, (∀ i, i < k → P (f (l.getD i dS))) → ∀ i, i < (rowK f l k).length → P ((rowK f l k).getD i (0, 0)).2
  | 0, _, i, hi => absurd hi (Nat.not_lt_zero _)
  | k + 1, h, i, hi => addR_mem (rowK_mem f l k (fun j hj => h j (by omega))) (h k (Nat.lt_succ_self k)) i hi
theorem rowK_ok {f : Smp → Int} {l : List Smp} {least : Int} (hl : l.length ≤ 5000) (h : ∀ i, i < l.length → least ≤ f (l.getD i dS) ∧ f (l.getD i dS) ≤ 1000000000) : runsF least (rowK f l l.length) = 0 := by
  refine firstF_zero (fun i hi => ?_)
  have h1 := (rowK_bd f l l.length).2 i hi
  have h2 := rowK_mem f l (P := fun x => least ≤ x ∧ x ≤ 1000000000) l.length h i hi
  unfold rnEl badR
  rw [if_neg]
  simp only [Bool.or_eq_true, decide_eq_true_iff]
  omega
theorem rowK_cnt {f : Smp → Int} {l : List Smp} {least : Int} (h : runsF least (rowK f l l.length) = 0) : cntA (rowK f l l.length) = (l.length : Int) := by
  rw [← valsR_all h, rowK_vals f l l.length (Nat.le_refl _), mapR_len]
theorem keyK_bd (l : List Smp) : ∀ k i, i < (keyK l k).length → 1 ≤ (keyK l k).getD i 0 ∧ (keyK l k).getD i 0 ≤ (k : Int) ∧ (0 < i → (keyK l k).getD (i - 1) 0 < (keyK l k).getD i 0)
  | 0, i, hi => absurd hi (Nat.not_lt_zero _)
  | k + 1, i, hi => by
    have ih := keyK_bd l k
    unfold keyK at hi ⊢
    by_cases hk : (l.getD k dS).key = true
    · rw [if_pos hk] at hi ⊢
      rw [List.length_append] at hi
      simp only [List.length_cons, List.length_nil] at hi
      have hl : ∀ j, j < (keyK l k).length → (keyK l k ++ [(k : Int) + 1]).getD j 0 = (keyK l k).getD j 0 := fun j hj => by
        rw [List.getD_eq_getElem?_getD, List.getElem?_append_left hj, ← List.getD_eq_getElem?_getD]
      by_cases h1 : i < (keyK l k).length
      · rw [hl i h1]
        have := ih i h1
        refine ⟨this.1, by omega, fun h2 => ?_⟩
        rw [hl (i - 1) (by omega)]; exact this.2.2 h2
      · obtain rfl : i = (keyK l k).length := by omega
        have e : (keyK l k ++ [(k : Int) + 1]).getD (keyK l k).length 0 = (k : Int) + 1 := by
          rw [List.getD_eq_getElem?_getD, List.getElem?_append_right (Nat.le_refl _)]; simp
        rw [e]
        refine ⟨by omega, by omega, fun h2 => ?_⟩
        rw [hl _ (by omega)]
        have := (ih ((keyK l k).length - 1) (by omega)).2.1
        omega
    · rw [if_neg hk] at hi ⊢
      have := ih i hi
      exact ⟨this.1, by omega, this.2.2⟩
theorem keyK_has (l : List Smp) {i : Nat} : ∀ k, (keyK l k).contains ((i : Int) + 1) = (decide (i < k) && (l.getD i dS).key)
  | 0 => by simp [keyK]
  | k + 1 => by
    have ih := keyK_has l (i := i) k
    unfold keyK
    by_cases hk : (l.getD k dS).key = true
    · rw [if_pos hk, List.contains_append, ih]
      by_cases h1 : i = k
      · subst h1; rw [hk]; simp
      · have h2 : decide (i < k + 1) = decide (i < k) := by simp only [decide_eq_decide]; omega
        have h3 : [(k : Int) + 1].contains ((i : Int) + 1) = false := by simp; omega
        rw [h2, h3, Bool.or_false]
    · rw [if_neg hk, ih]
      by_cases h1 : i = k
      · subst h1; rw [Bool.not_eq_true] at hk; rw [hk]; simp
      · have h2 : decide (i < k + 1) = decide (i < k) := by simp only [decide_eq_decide]; omega
        rw [h2]
theorem chK_get_bd (ch : List Int) : ∀ k i, i < (chK ch k).length → 1 ≤ ((chK ch k).getD i (0, 0)).1 ∧ ((chK ch k).getD i (0, 0)).1 ≤ (k : Int) ∧ (i = 0 → ((chK ch k).getD i (0, 0)).1 = 1) ∧ (0 < i → ((chK ch k).getD (i - 1) (0, 0)).1 < ((chK ch k).getD i (0, 0)).1) ∧ (∃ j, j < k ∧ ((chK ch k).getD i (0, 0)).2 = ch.getD j 0)
  | 0, i, hi => absurd hi (Nat.not_lt_zero _)
  | k + 1, i, hi => by
    have ih := chK_get_bd ch k
    unfold chK at hi ⊢
    by_cases hk : k = 0 ∨ ch.getD k 0 ≠ ch.getD (k - 1) 0
    · rw [if_pos hk] at hi ⊢
      rw [List.length_append] at hi
      simp only [List.length_cons, List.length_nil] at hi
      have hl : ∀ j, j < (chK ch k).length → (chK ch k ++ [((k : Int) + 1, ch.getD k 0)]).getD j (0, 0) = (chK ch k).getD j (0, 0) := fun j hj => by
        rw [List.getD_eq_getElem?_getD, List.getElem?_append_left hj, ← List.getD_eq_getElem?_getD]
      by_cases h1 : i < (chK ch k).length
      · rw [hl i h1]
        obtain ⟨a1, a2, a3, a4, j, a5, a6⟩ := ih i h1
        refine ⟨a1, by omega, a3, fun h2 => ?_, j, by omega, a6⟩
        rw [hl (i - 1) (by omega)]; exact a4 h2
      · obtain rfl : i = (chK ch k).length := by omega
        have e : (chK ch k ++ [((k : Int) + 1, ch.getD k 0)]).getD (chK ch k).length (0, 0) = ((k : Int) + 1, ch.getD k 0) := by
          rw [List.getD_eq_getElem?_getD, List.getElem?_append_right (Nat.le_refl _)]; simp
        rw [e]
        refine ⟨by show (1 : Int) ≤ (k : Int) + 1; omega, by show (k : Int) + 1 ≤ ((k + 1 : Nat) : Int); omega, fun h2 => ?_, fun h2 => ?_, k, by omega, rfl⟩
        · rcases Nat.eq_zero_or_pos k with h3 | h3
          · subst h3; rfl
          · have := (chK_last ch k h3).1; omega
        · rw [hl _ (by omega)]
          have := (ih ((chK ch k).length - 1) (by omega)).2.1
          show _ < (k : Int) + 1
          omega
    · rw [if_neg hk] at hi ⊢
      obtain ⟨a1, a2, a3, a4, j, a5, a6⟩ := ih i hi
      exact ⟨a1, by omega, a3, a4, j, by omega, a6⟩
theorem smOK_app (l r : List (Int × Int)) (c : Int) : ∀ k, k ≤ l.length → smOK (l ++ r) c k = smOK l c k
  | 0, _ => rfl
  | k + 1, hk => by
    have ih := smOK_app l r c k (by omega)
    rw [smOK, smOK, ih, List.getD_eq_getElem?_getD, List.getElem?_append_left (by omega), ← List.getD_eq_getElem?_getD]
theorem smO_snoc (l : List (Int × Int)) (x : Int × Int) (c : Int) : smO (l ++ [x]) c = if x.1 ≤ c then x.2 else smO l c := by
  unfold smO
  rw [List.length_append]
  show smOK (l ++ [x]) c (l.length + 1) = _
  rw [smOK, smOK_app l [x] c l.length (Nat.le_refl _)]
  have e : (l ++ [x]).getD l.length (0, 0) = x := by rw [List.getD_eq_getElem?_getD, List.getElem?_append_right (Nat.le_refl _)]; simp
  rw [e]
theorem chK_smO (ch : List Int) : ∀ (m c : Nat), c < m → smO (chK ch m) ((c : Int) + 1) = ch.getD c 0
  | 0, c, h => absurd h (Nat.not_lt_zero _)
  | m + 1, c, h => by
    have ih := chK_smO ch m
    unfold chK
    by_cases hk : m = 0 ∨ ch.getD m 0 ≠ ch.getD (m - 1) 0
    · rw [if_pos hk, smO_snoc]
      rcases Nat.lt_or_ge c m with h1 | h1
      · rw [if_neg (by show ¬ ((m : Int) + 1 ≤ (c : Int) + 1); omega)]; exact ih c h1
      · obtain rfl : c = m := by omega
        rw [if_pos (Int.le_refl _)]
    · rw [if_neg hk]
      rcases Nat.lt_or_ge c m with h1 | h1
      · exact ih c h1
      · obtain rfl : c = m := by omega
        have h2 : 0 < c := by omega
        have h3 : ch.getD c 0 = ch.getD (c - 1) 0 := by
          by_cases h : ch.getD c 0 = ch.getD (c - 1) 0
          · exact h
          · exact absurd (.inr h) hk
        obtain ⟨h4, h5⟩ := chK_last ch c h2
        have h6 := (chK_get_bd ch c ((chK ch c).length - 1) (by omega)).2.1
        rw [h3, ← h5]
        generalize hL : chK ch c = L at *
        have h7 : smOK L ((c : Int) + 1) (L.length - 1 + 1) = (L.getD (L.length - 1) (0, 0)).2 := by rw [smOK, if_pos (by omega)]
        unfold smO
        rw [← h7]
        congr 1
        omega
theorem allS_chK (ch : List Int) {m : Nat} : ∀ c, c ≤ m → allS (chK ch m) c = sumI ch c
  | 0, _ => rfl
  | c + 1, hc => by rw [allS, sumI, allS_chK ch c (by omega), chK_smO ch m c (by omega)]
structure CmpR (l : List Smp) (ch pl : List Int) : Prop where
  smp : smpF l = 0
  len : ch.length = pl.length
  cq : ∀ i, i < ch.length → 1 ≤ ch.getD i 0 ∧ ch.getD i 0 ≤ 1000
  sum : sumI ch ch.length = (l.length : Int)
  ql : firstF (plEl pl) pl.length = 0
theorem cmp_parts {l : List Smp} {ch pl : List Int} (h : cmpF l ch pl = 0) : CmpR l ch pl := by
  unfold cmpF at h
  by_cases h1 : smpF l ≠ 0
  · rw [if_pos h1] at h; exact absurd h h1
  rw [if_neg h1] at h
  by_cases h2 : ch.length ≠ pl.length
  · rw [if_pos h2] at h; omega
  rw [if_neg h2] at h
  by_cases h3 : firstF (cqEl ch) ch.length ≠ 0
  · rw [if_pos h3] at h; omega
  rw [if_neg h3] at h
  by_cases h4 : sumI ch ch.length ≠ (l.length : Int)
  · rw [if_pos h4] at h; omega
  rw [if_neg h4] at h
  by_cases h5 : firstF (qlEl pl) pl.length ≠ 0
  · rw [if_pos h5] at h; omega
  refine ⟨by omega, by omega, fun i hi => ?_, by omega, by have : firstF (qlEl pl) pl.length = 0 := by omega
                                                           exact this⟩
  have h6 := firstF_all (by omega : firstF (cqEl ch) ch.length = 0) i hi
  unfold cqEl at h6
  by_cases h7 : ch.getD i 0 < 1 ∨ 1000 < ch.getD i 0
  · rw [if_pos h7] at h6; omega
  · omega
theorem cmp_of {l : List Smp} {ch pl : List Int} (h : CmpR l ch pl) : cmpF l ch pl = 0 := by
  unfold cmpF
  have h3 : firstF (cqEl ch) ch.length = 0 := firstF_zero (fun i hi => by
    have := h.cq i hi
    unfold cqEl; rw [if_neg (by omega)])
  have h5 : firstF (qlEl pl) pl.length = 0 := h.ql
  rw [if_neg (by have := h.smp; omega), if_neg (by have := h.len; omega), if_neg (by omega), if_neg (by have := h.sum; omega), if_neg (by omega)]
theorem smp_bd {l : List Smp} (h : smpF l = 0) {i : Nat} (hi : i < l.length) : (-1000000000000000 ≤ (l.getD i dS).time ∧ (l.getD i dS).time ≤ 1000000000000000) ∧ (0 ≤ (l.getD i dS).step ∧ (l.getD i dS).step ≤ 1000000000) ∧ (-1000000000 ≤ (l.getD i dS).shift ∧ (l.getD i dS).shift ≤ 1000000000) ∧ (0 ≤ (l.getD i dS).size ∧ (l.getD i dS).size ≤ 100000) :=
  badS_ok (smpEl_zero ((smpF_zero h).2.1 i hi)).1
def endA (s : Int) (l : List (Int × Int)) : Int := endI s l l.length
theorem endI_app (s : Int) (l r : List (Int × Int)) : ∀ k, k ≤ l.length → endI s (l ++ r) k = endI s l k
  | 0, _ => rfl
  | k + 1, hk => by
    rw [endI, endI, endI_app s l r k (by omega), List.getD_eq_getElem?_getD, List.getElem?_append_left (by omega), ← List.getD_eq_getElem?_getD]
theorem endA_snoc (s : Int) (l : List (Int × Int)) (x : Int × Int) : endA s (l ++ [x]) = endA s l + x.1 * x.2 := by
  unfold endA
  rw [List.length_append]
  show endI s (l ++ [x]) (l.length + 1) = _
  rw [endI, endI_app s l [x] l.length (Nat.le_refl _)]
  have e : (l ++ [x]).getD l.length (0, 0) = x := by rw [List.getD_eq_getElem?_getD, List.getElem?_append_right (Nat.le_refl _)]; simp
  rw [e]
theorem endA_add (s : Int) (l : List (Int × Int)) (x : Int) : endA s (addR l x) = endA s l + x := by
  by_cases hc : 0 < l.length ∧ (l.getD (l.length - 1) (0, 0)).2 = x
  · rw [addR_in hc, endA_snoc]
    have h1 := last_split hc.1
    have e : endA s l = endA s (l.take (l.length - 1)) + (l.getD (l.length - 1) (0, 0)).1 * x := by
      conv => lhs; rw [h1]
      rw [endA_snoc, hc.2]
    rw [e]
    show endA s (l.take (l.length - 1)) + ((l.getD (l.length - 1) (0, 0)).1 + 1) * x = _
    rw [Int.add_mul, Int.one_mul]; omega
  · rw [addR_app hc, endA_snoc]
    show endA s l + 1 * x = _
    rw [Int.one_mul]
theorem rowK_end {l : List Smp} (h : smpF l = 0) (s : Int) (hs : 0 < l.length → s = (l.getD 0 dS).time) : ∀ k, k ≤ l.length → endA s (rowK Smp.step l k) = if k = 0 then s else (l.getD (k - 1) dS).time + (l.getD (k - 1) dS).step
  | 0, _ => rfl
  | k + 1, hk => by
    have ih := rowK_end h s hs k (by omega)
    have e : (if k + 1 = 0 then s else (l.getD (k + 1 - 1) dS).time + (l.getD (k + 1 - 1) dS).step) = (l.getD k dS).time + (l.getD k dS).step := by rw [if_neg (by omega), Nat.add_sub_cancel]
    rw [e, rowK, endA_add, ih]
    rcases Nat.eq_zero_or_pos k with h0 | h0
    · subst h0; rw [if_pos rfl, hs (by omega)]
    · have h1 : ¬ k = 0 := by omega
      rw [if_neg h1, (smpEl_zero ((smpF_zero h).2.1 k (by omega))).2 h0]
theorem cmpT_sizes {l : List Smp} (h : smpF l = 0) {s : List Int} (hs : s = if oneK l l.length = true then (szK l l.length).take 1 else szK l l.length) : ¬ szBad (l.length : Int) s.length ∧ firstF (szEl s) s.length = 0 ∧ ∀ i, i < l.length → s.getD (min i (s.length - 1)) 0 = (l.getD i dS).size := by
  have hl := szK_len l l.length
  have hat := fun i hi => szK_at l (i := i) l.length hi
  have hone := oneK_iff l l.length
  have hel : ∀ (s' : List Int), (∀ i, i < s'.length → ∃ j, j < l.length ∧ s'.getD i 0 = (l.getD j dS).size) → firstF (szEl s') s'.length = 0 := fun s' hh => firstF_zero (fun i hi => by
    obtain ⟨j, hj, e⟩ := hh i hi
    have := (smp_bd h hj).2.2.2
    unfold szEl; rw [if_neg (by rw [e]; omega)])
  by_cases ho : oneK l l.length = true
  · rw [if_pos ho] at hs
    rcases Nat.eq_zero_or_pos l.length with h0 | h0
    · have e : s = [] := by rw [hs, List.eq_nil_of_length_eq_zero (hl.trans h0)]; rfl
      subst e
      exact ⟨fun hb => hb.1 (by simp [h0]), rfl, fun i hi => absurd hi (by omega)⟩
    · have hsl : s.length = 1 := by rw [hs, List.length_take, hl]; omega
      have hs0 : s.getD 0 0 = (l.getD 0 dS).size := by
        rw [hs, List.getD_eq_getElem?_getD, List.getElem?_take_of_lt (by omega), ← List.getD_eq_getElem?_getD]; exact hat 0 h0
      refine ⟨fun hb => ?_, hel s (fun i hi => ⟨0, h0, by rw [show i = 0 by omega]; exact hs0⟩), fun i hi => ?_⟩
      · rcases hb.2 with h1 | h1
        · omega
        · exact h1 hsl
      · rw [hsl, show min i (1 - 1) = 0 by omega, hs0]
        exact ((hone.1 ho) i hi).symm
  · rw [if_neg ho] at hs
    subst hs
    refine ⟨fun hb => hb.1 (by rw [hl]), hel _ (fun i hi => ⟨i, by omega, hat i (by omega)⟩), fun i hi => ?_⟩
    rw [hl, Nat.min_eq_left (by omega)]
    exact hat i hi
theorem cmpT_keys (l : List Smp) {ks : List Int} (hk : ks = if allK l l.length = true then [] else keyK l l.length) : firstF (kyEl (l.length : Int) ks) ks.length = 0 ∧ ∀ i, i < l.length → (allK l l.length || ks.contains ((i : Int) + 1)) = (l.getD i dS).key := by
  by_cases ha : allK l l.length = true
  · rw [if_pos ha] at hk
    subst hk
    refine ⟨rfl, fun i hi => ?_⟩
    rw [ha, (allK_iff l l.length).1 ha i hi]; rfl
  · rw [if_neg ha] at hk
    subst hk
    refine ⟨firstF_zero (fun i hi => ?_), fun i hi => ?_⟩
    · obtain ⟨h1, h2, h3⟩ := keyK_bd l l.length i hi
      unfold kyEl
      rw [if_neg (by omega), if_neg (fun hc => by have := h3 hc.1; omega)]
    · rw [Bool.not_eq_true] at ha
      rw [ha, Bool.false_or, keyK_has, decide_eq_true hi, Bool.true_and]
theorem cmpT_chunks {l : List Smp} {ch pl : List Int} (h : CmpR l ch pl) (_hl : l.length ≤ 5000) (hc : ch.length ≤ 5000) : chunksF (l.length : Int) (chK ch ch.length) pl = 0 := by
  have hch : firstF (chEl (chK ch ch.length)) (chK ch ch.length).length = 0 := firstF_zero (fun i hi => by
    obtain ⟨a1, a2, a3, a4, j, a5, a6⟩ := chK_get_bd ch ch.length i hi
    have h1 := h.cq j a5
    unfold chEl
    rw [if_neg, if_neg]
    · unfold ordC
      simp only [decide_eq_true_iff]
      rintro (⟨b1, b2⟩ | ⟨b1, b2⟩)
      · exact b2 (a3 b1)
      · have := a4 b1; omega
    · unfold badC
      simp only [Bool.or_eq_true, decide_eq_true_iff]
      rw [a6]; omega)
  have hf : ¬ chForm (chK ch ch.length) pl.length := by
    rintro (⟨b1, b2⟩ | ⟨b1, b2⟩)
    · have := (chK_last ch ch.length (by have := h.len; omega)).1; omega
    · have := (chK_get_bd ch ch.length ((chK ch ch.length).length - 1) (by omega)).2.1
      have := h.len
      omega
  unfold chunksF
  rw [if_neg (by omega), if_neg hf, if_neg, h.ql]
  rw [← allS_sum hch hf, ← h.len, allS_chK ch ch.length (Nat.le_refl _), h.sum]
  exact fun h => h rfl
theorem cmp_right {l : List Smp} {ch pl : List Int} (h : cmpF l ch pl = 0) : tabF (cmpT l ch pl) = 0 := by
  have hp := cmp_parts h
  have hfw := chunks_few h
  have hsm := hp.smp
  have r1 : runsF 0 (rowK Smp.step l l.length) = 0 := rowK_ok hfw.1 (fun i hi => (smp_bd hsm hi).2.1)
  have r2 : runsF (-1000000000) (rowK Smp.shift l l.length) = 0 := rowK_ok hfw.1 (fun i hi => (smp_bd hsm hi).2.2.1)
  have c1 := rowK_cnt r1
  have c2 := rowK_cnt r2
  have hsz := cmpT_sizes hsm (s := (cmpT l ch pl).sizes) rfl
  have hky := cmpT_keys l (ks := (cmpT l ch pl).keys) rfl
  have hst : (cmpT l ch pl).start = if 0 < l.length then (l.getD 0 dS).time else 0 := rfl
  have hend := rowK_end hsm (cmpT l ch pl).start (fun h0 => by rw [hst, if_pos h0]) l.length (Nat.le_refl _)
  have hns : noT (cmpT l ch pl).start = false := by
    rw [hst]
    by_cases h0 : 0 < l.length
    · rw [if_pos h0]
      have := (smp_bd hsm h0).1
      unfold noT; exact decide_eq_false (by omega)
    · rw [if_neg h0]; rfl
  have e1 : cntA (cmpT l ch pl).steps = (l.length : Int) := c1
  have e2 : cntA (cmpT l ch pl).shifts = (l.length : Int) := c2
  have t0 : ¬ 5000 < cntA (cmpT l ch pl).steps := by rw [e1]; omega
  rw [tabF_two hns r1 t0 r2, tabF2_three (by rw [e1, e2]; rintro (hc | hc); exact hc rfl; exact hsz.1 hc) hsz.2.1 (by rw [e1]; exact hky.1)]
  unfold tabF3
  have hcf : chunksF (cntA (cmpT l ch pl).steps) (cmpT l ch pl).chunks (cmpT l ch pl).places = 0 := by rw [e1]; exact cmpT_chunks hp hfw.1 hfw.2.1
  rw [if_neg (by omega), if_neg]
  have he : endI (cmpT l ch pl).start (cmpT l ch pl).steps (cmpT l ch pl).steps.length = endA (cmpT l ch pl).start (rowK Smp.step l l.length) := rfl
  rw [he, hend]
  by_cases h0 : l.length = 0
  · rw [if_pos h0, hns]; simp
  · rw [if_neg h0]
    have := (smpF_zero hsm).2.2 (by omega)
    unfold endS at this
    rw [this]; simp
theorem list_getD {a b : List Smp} (hl : a.length = b.length) (h : ∀ i, i < b.length → a.getD i dS = b.getD i dS) : a = b := by
  apply List.ext_getElem hl
  intro i h1 h2
  have := h i h2
  rw [List.getD_eq_getElem?_getD, List.getElem?_eq_getElem h1, List.getD_eq_getElem?_getD, List.getElem?_eq_getElem h2] at this
  exact this
theorem cmp_exN {l : List Smp} {ch pl : List Int} : exN (cmpT l ch pl) = l.length := by
  show (valsR (rowK Smp.step l l.length)).length = _
  rw [rowK_vals _ _ _ (Nat.le_refl _), mapR_len]
theorem cmp_exS {l : List Smp} {ch pl : List Int} (h : cmpF l ch pl = 0) : exS (cmpT l ch pl) = l := by
  have hp := cmp_parts h
  have hsm := hp.smp
  have hN : exN (cmpT l ch pl) = l.length := cmp_exN
  have hsz := cmpT_sizes hsm (s := (cmpT l ch pl).sizes) rfl
  have hky := cmpT_keys l (ks := (cmpT l ch pl).keys) rfl
  have v1 : valsR (cmpT l ch pl).steps = mapR l.length (fun i => (l.getD i dS).step) := rowK_vals _ _ _ (Nat.le_refl _)
  have v2 : valsR (cmpT l ch pl).shifts = mapR l.length (fun i => (l.getD i dS).shift) := rowK_vals _ _ _ (Nat.le_refl _)
  have tm : ∀ i, i < l.length → exT (cmpT l ch pl) i = (l.getD i dS).time := by
    intro i
    induction i with
    | zero => intro h0; show (cmpT l ch pl).start = _; show (if 0 < l.length then (l.getD 0 dS).time else 0) = _; rw [if_pos h0]
    | succ i ih =>
      intro hi
      rw [exT, ih (by omega), v1, mapR_getD _ _ (by omega)]
      exact ((smpEl_zero ((smpF_zero hsm).2.1 (i + 1) hi)).2 (by omega)).symm
  refine list_getD (by unfold exS; rw [mapR_len, hN]) (fun i hi => ?_)
  rw [exS_at (by rw [hN]; exact hi), tm i hi]
  have k1 : exSt (cmpT l ch pl) i = (l.getD i dS).step := by unfold exSt; rw [v1, mapR_getD _ _ hi]
  have k2 : exSh (cmpT l ch pl) i = (l.getD i dS).shift := by unfold exSh; rw [v2, mapR_getD _ _ hi]
  have k3 : exSz (cmpT l ch pl) i = (l.getD i dS).size := hsz.2.2 i hi
  have k4 : exKy (cmpT l ch pl) (cmpT l ch pl).keys.length i = (l.getD i dS).key := by
    unfold exKy
    rw [List.take_length]
    exact hky.2 i hi
  rw [k1, k2, k3, k4]
end Go.Proofs.Ytkbmgakehlmcnaa
namespace Go.Proofs.Ytkbmgakehlmcnaa
open Go.RowKit
end Go.Proofs.Ytkbmgakehlmcnaa
namespace Go.Proofs.Ytkbmgakehlmcnaa
end Go.Proofs.Ytkbmgakehlmcnaa
